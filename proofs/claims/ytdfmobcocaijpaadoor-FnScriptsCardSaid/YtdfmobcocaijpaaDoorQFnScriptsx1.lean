/- What a call of each Go function that FnScripts reaches comes to, as a Lean function: texts of the kit's print, turned by wip/remake.py. No condition beyond what each names. -/
import Derived.Test.YtdfmobcocaijpaaDoorQFnScriptsx0
namespace Go.Proofs.YtdfmobcocaijpaaDoor.QFnScripts
open Go.RowKit Go.Proofs.YtdfmobcocaijpaaDoorW.PrintWords Go.Proofs.YtdfmobcocaijpaaDoorW.PrintLast Go.Proofs.YtdfmobcocaijpaaDoorW.PrintMore
open Go.Proofs.YtdfmobcocaijpaaDoorW.PrintWords renaming pw_below_drewN → QB, below_alloc → QC, below_drew1 → QD, keep_drewN → QE, keep_alloc → QF, below_set → QG, keep_drew → QH, blk_drewN → QI, blk_alloc → QJ, blk_drew → QK, gate_callee → QL, keep_far → QP
open Go.Proofs.YtdfmobcocaijpaaDoorW.PrintWords.Kd renaming R_alloc → QM, R_drewN → QN, R_drew → QO, R_mono → QR
open Go.Proofs.YtdfmobcocaijpaaDoorW.PrintWords.Aside0 renaming mk → QS
open Option renaming bind_eq_some_iff → QT
attribute [local go_sem] max2_int min2_int max_two min_two max_three min_three max_four min_four   -- for this text's walks alone
set_option linter.unusedVariables false
set_option linter.unusedSimpArgs false

/-! ### laws_big: function 6 -/
def laws_big.f (l0 : List Int) : Option (Bool) := some (decide ((l0.length : Int) > 1048576))
set_option maxHeartbeats 8000000 in
set_option maxRecDepth 100000 in
theorem laws_big.calls (A0 : Option Addr) (c0 : Nat) (l0 : List Int) (r : Bool) (w : World) (hr0 : Kd.C (Kd.int .u8) w A0 l0.length l0) (hc0 : l0.length ≤ c0) (h : laws_big.f l0 = some r) :
  Calls Tryd.prog 6 #[.slice A0 l0.length c0] w fun e w' => e = .returned (.bool r) ∧ Drawn0 w w' := by
 have HR0 := QS hr0
 have HC0 := QS hc0
 clear hr0 hc0
 have H : (some (decide ((l0.length : Int) > 1048576))) = some r := h
 clear h
 obtain rfl := Option.some.inj H
 go_enter Tryd.func6,Tryd.ntmps6
 go_wp2
 go_ret
 exact ⟨by first | rfl | (simp; done) | (simp [*]; done),by repeat (first | exact Drawn0.refl _ | apply Drawn0.step)⟩

/-- A state of type 80 at block g of W; what its slices lead to came in by w0. -/
def IsS80 (w0 W : World) (g : Nat) (f0 : List Int) (f1 : Int) (f2 : Int) : Prop := ∃ A0 c0, W.heap[g]? = some (.cells #[.slice A0 f0.length c0, .int .i64 f1, .int .i64 f2] 80 (0, 0)) ∧ w0.heap.size ≤ g ∧ Kd.C (Kd.int .u8) w0 A0 f0.length f0
theorem IsS80.grown {w0 W : World} {g : Nat} {f0 : List Int} {f1 : Int} {f2 : Int} {W1 : World} {row : Option Nat} (h : IsS80 w0 W g f0 f1 f2) (hw : W.grownBy W1 row) (hne : some g ≠ row) : IsS80 w0 W1 g f0 f1 f2 := by
 obtain ⟨A0,c0,hb,hg,hr0⟩ := h
 exact ⟨A0,c0,blk_grown hb hw hne,hg,hr0⟩
theorem IsS80.own_neN {w0 W : World} {g : Nat} {f0 : List Int} {f1 : Int} {f2 : Int} {α : Type} {d : Kd α} {e : Nat} {base : Nat} {ok : Nat → Prop} {v : Value} {xs : List α} (h : IsS80 w0 W g f0 f1 f2) (ho : Kd.N d e W base ok v xs) (ht : e ≠ 80) : some g ≠ v.ownBlock := by
 obtain ⟨A0,c0,hb,hg,hr0⟩ := h
 exact Kd.N_ne ho hb ht
theorem IsS80.fresh {w0 W : World} {g : Nat} {f0 : List Int} {f1 : Int} {f2 : Int} (h : IsS80 w0 W g f0 f1 f2) : ∀ k, W.heap.size ≤ k → k ≠ g := by
 obtain ⟨A0,c0,hb,hg,hr0⟩ := h
 exact Kd.freshB hb
theorem IsS80.kept {w0 W : World} {g : Nat} {f0 : List Int} {f1 : Int} {f2 : Int} {W1 : World} {S : Nat → Prop} (h : IsS80 w0 W g f0 f1 f2) (hk : Kept W W1 S) (hne : ¬ S g) : IsS80 w0 W1 g f0 f1 f2 := by
 obtain ⟨A0,c0,hb,hg,hr0⟩ := h
 exact ⟨A0,c0,blk_kept hb hk hne,hg,hr0⟩
theorem IsS80.below {w0 W : World} {g : Nat} {f0 : List Int} {f1 : Int} {f2 : Int} {W1 : World} (h : IsS80 w0 W g f0 f1 f2) (hw : Below W.heap.size W W1) : IsS80 w0 W1 g f0 f1 f2 := h.grown (grown_of_below hw none) (by simp)
theorem IsS80.alloc {w0 W : World} {g : Nat} {f0 : List Int} {f1 : Int} {f2 : Int} (h : IsS80 w0 W g f0 f1 f2) (o : Obj) : IsS80 w0 (W.alloc o) g f0 f1 f2 := h.below (QC (Below.refl _ _) o)
theorem IsS80.drewN {w0 W : World} {g : Nat} {f0 : List Int} {f1 : Int} {f2 : Int} (h : IsS80 w0 W g f0 f1 f2) (m : Nat) : IsS80 w0 (W.drewN m) g f0 f1 f2 := h
theorem IsS80.drew {w0 W : World} {g : Nat} {f0 : List Int} {f1 : Int} {f2 : Int} (h : IsS80 w0 W g f0 f1 f2) : IsS80 w0 W.drew g f0 f1 f2 := h
theorem IsS80.at_ {w0 W : World} {g : Nat} {f0 : List Int} {f1 : Int} {f2 : Int} {w' : World} {m : Nat} (hq : W.drewN m = w') (h : IsS80 w0 W g f0 f1 f2) : IsS80 w0 w' g f0 f1 f2 := by subst hq; exact IsS80.drewN h m
theorem IsS80.apart {w0 W : World} {g : Nat} {f0 : List Int} {f1 : Int} {f2 : Int} {α : Type} {d : Kd α} {e : Nat} {base : Nat} {ok : Nat → Prop} {v : Value} {xs : List α} (h : IsS80 w0 W g f0 f1 f2) (ho : d.R e W base ok v xs) (ht : ∀ q, q ∈ e :: d.E → q ≠ 80) : d.R e W base (fun k => ok k ∧ k ≠ g) v xs := by
 obtain ⟨A0,c0,hb,hg,hr0⟩ := h
 exact Kd.R_types ho hb ht
theorem IsS80.own_ne {w0 W : World} {g : Nat} {f0 : List Int} {f1 : Int} {f2 : Int} {α : Type} {d : Kd α} {e : Nat} {base : Nat} {ok : Nat → Prop} {v : Value} {xs : List α} (h : IsS80 w0 W g f0 f1 f2) (ho : d.R e W base ok v xs) (ht : e ≠ 80) : some g ≠ v.ownBlock := by
 obtain ⟨A0,c0,hb,hg,hr0⟩ := h
 exact Kd.R_ne ho hb ht
theorem IsS80.apartQ {w0 W : World} {g : Nat} {f0 : List Int} {f1 : Int} {f2 : Int} {α : Type} {d : Kd α} {e : Nat} {base : Nat} {ok : Nat → Prop} {v : Value} {xs : List α} (h : IsS80 w0 W g f0 f1 f2) (ho : d.Q e W base ok v xs) (ht : ∀ q, q ∈ e :: d.E → q ≠ 80) : d.Q e W base (fun k => ok k ∧ k ≠ g) v xs := by
 obtain ⟨A0,c0,hb,hg,hr0⟩ := h
 exact Kd.Q_types ho hb ht
theorem IsS80.own_neQ {w0 W : World} {g : Nat} {f0 : List Int} {f1 : Int} {f2 : Int} {α : Type} {d : Kd α} {e : Nat} {base : Nat} {ok : Nat → Prop} {v : Value} {xs : List α} (h : IsS80 w0 W g f0 f1 f2) (ho : d.Q e W base ok v xs) (ht : e ≠ 80) : some g ≠ v.ownBlock := by
 obtain ⟨A0,c0,hb,hg,hr0⟩ := h
 exact Kd.Q_ne ho hb ht
theorem IsS80.apartS {w0 W : World} {g : Nat} {f0 : List Int} {f1 : Int} {f2 : Int} {α : Type} {d : Kd α} {e : Nat} {base : Nat} {ok : Nat → Prop} {v : Value} {xs : List α} (h : IsS80 w0 W g f0 f1 f2) (ho : d.S e W base ok v xs) (ht : ∀ q, q ∈ e :: d.E → q ≠ 80) : d.S e W base (fun k => ok k ∧ k ≠ g) v xs := by
 obtain ⟨A0,c0,hb,hg,hr0⟩ := h
 exact Kd.S_types ho hb ht
theorem IsS80.own_neS {w0 W : World} {g : Nat} {f0 : List Int} {f1 : Int} {f2 : Int} {α : Type} {d : Kd α} {e : Nat} {base : Nat} {ok : Nat → Prop} {v : Value} {xs : List α} (h : IsS80 w0 W g f0 f1 f2) (ho : d.S e W base ok v xs) (ht : e ≠ 80) : some g ≠ v.ownBlock := by
 obtain ⟨A0,c0,hb,hg,hr0⟩ := h
 exact Kd.S_ne ho hb ht
theorem IsS80.lt {w0 W : World} {g : Nat} {f0 : List Int} {f1 : Int} {f2 : Int} (h : IsS80 w0 W g f0 f1 f2) : g < W.heap.size := by
 obtain ⟨A0,c0,hb,hg,hr0⟩ := h
 exact blk_lt hb
theorem IsS80.ge {w0 W : World} {g : Nat} {f0 : List Int} {f1 : Int} {f2 : Int} (h : IsS80 w0 W g f0 f1 f2) : w0.heap.size ≤ g := by
 obtain ⟨A0,c0,hb,hg,hr0⟩ := h
 exact hg
theorem IsS80.ne_blk {w0 W : World} {g : Nat} {f0 : List Int} {f1 : Int} {f2 : Int} {a : Nat} {cs : Array Value} {t : TypeId} {fr : Nat × Nat} (h : IsS80 w0 W g f0 f1 f2) (hb2 : W.heap[a]? = some (.cells cs t fr)) (ht : t ≠ 80) : g ≠ a := by
 obtain ⟨A0,c0,hb,hg,hr0⟩ := h
 rintro rfl
 rw [hb] at hb2
 injection hb2 with hb2
 injection hb2 with _ ht2
 exact ht ht2.symm
theorem IsS80.far {w0 W : World} {g : Nat} {f0 : List Int} {f1 : Int} {f2 : Int} {p : Addr} (h : IsS80 w0 W g f0 f1 f2) (hne : g ≠ p.block) (u : Value) : IsS80 w0 (W.setCell p u) g f0 f1 f2 := by
 obtain ⟨A0,c0,hb,hg,hr0⟩ := h
 exact ⟨A0,c0,blk_far hb hne u,hg,hr0⟩
theorem cellS80_0 {W : World} {g : Nat} {A0 : Option Addr} {c0 : Nat} {f0 : List Int} {f1 : Int} {f2 : Int} (h : W.heap[g]? = some (.cells #[.slice A0 f0.length c0, .int .i64 f1, .int .i64 f2] 80 (0, 0))) : W.cell? ⟨g, 0, none⟩ = some (.slice A0 f0.length c0) := (blk_cell h 0).trans rfl
theorem cellS80_1 {W : World} {g : Nat} {A0 : Option Addr} {c0 : Nat} {f0 : List Int} {f1 : Int} {f2 : Int} (h : W.heap[g]? = some (.cells #[.slice A0 f0.length c0, .int .i64 f1, .int .i64 f2] 80 (0, 0))) : W.cell? ⟨g, 1, none⟩ = some (.int .i64 f1) := (blk_cell h 1).trans rfl
theorem IsS80.set_1 {w0 W : World} {g : Nat} {f0 : List Int} {f1 : Int} {f2 : Int} (h : IsS80 w0 W g f0 f1 f2) (x : Int) : IsS80 w0 (W.setCell ⟨g, 1, none⟩ (.int .i64 x)) g f0 x f2 := by
 obtain ⟨A0,c0,hb,hg,hr0⟩ := h
 exact ⟨A0,c0,by simpa using blk_set hb 1 (.int .i64 x),hg,hr0⟩
theorem cellS80_2 {W : World} {g : Nat} {A0 : Option Addr} {c0 : Nat} {f0 : List Int} {f1 : Int} {f2 : Int} (h : W.heap[g]? = some (.cells #[.slice A0 f0.length c0, .int .i64 f1, .int .i64 f2] 80 (0, 0))) : W.cell? ⟨g, 2, none⟩ = some (.int .i64 f2) := (blk_cell h 2).trans rfl
theorem IsS80.set_2 {w0 W : World} {g : Nat} {f0 : List Int} {f1 : Int} {f2 : Int} (h : IsS80 w0 W g f0 f1 f2) (x : Int) : IsS80 w0 (W.setCell ⟨g, 2, none⟩ (.int .i64 x)) g f0 f1 x := by
 obtain ⟨A0,c0,hb,hg,hr0⟩ := h
 exact ⟨A0,c0,by simpa using blk_set hb 2 (.int .i64 x),hg,hr0⟩
theorem IsS80.new (w0 W : World) (A0 : Option Addr) (c0 : Nat) (f0 : List Int) (f1 : Int) (f2 : Int) (hB : Below w0.heap.size w0 W) (hr0 : Kd.C (Kd.int .u8) w0 A0 f0.length f0) : IsS80 w0 (W.alloc (.cells #[.slice A0 f0.length c0, .int .i64 f1, .int .i64 f2] 80)) W.heap.size f0 f1 f2 := ⟨A0, c0, by simpa using heap_alloc_new W _, hB.size, hr0⟩

/-! ### spec_l1New: function 34 -/
def spec_l1New.l0 : Nat → List Int → Int → Int → Option (List Int × Int × Int)
 | 0,_,_,_ => none
 | k + 1,x0,x3,x4 => if x4 < (x0.length : Int) then (if x4 < 4000 then (if 0 ≤ x4 then (spec_l1New.l0 k x0 (Go.bits .and .i64 (wrap64 ((wrap64 ((wrap64 (x3 * 137)) + (wrap64 (rd x0 x4)))) + 11)) 1073741823) (wrap64 (x4 + 1))) else (none)) else (some (x0,0,x3))) else (some (x0,0,x3))
def spec_l1New.f (k : Nat) (l0 : List Int) : Option (List Int × Int × Int) := spec_l1New.l0 k l0 (wrap64 (193017 + (l0.length : Int))) 0
theorem spec_l1New.mono_l : ∀ k, (∀ y0 y1 y2, LeO (spec_l1New.l0 k y0 y1 y2) (spec_l1New.l0 (k + 1) y0 y1 y2))
 | 0 => fun _ _ _ r h => by simp [spec_l1New.l0] at h
 | k + 1 => by
  have ih0 := spec_l1New.mono_l k
  ·intro y0 y1 y2
   unfold spec_l1New.l0
   repeat' first
   | (with_reducible exact ih0 _ _ _)
   | (with_reducible exact LeO.refl _)
   | (with_reducible exact LeO.none _)
   | (with_reducible refine LeO.ite ?_ ?_)
   | (with_reducible refine LeO.bind ?_ (fun _ => ?_))
   | exact ih0 _ _ _
   | exact LeO.none _
   | refine LeO.ite ?_ ?_
   | refine LeO.bind ?_ (fun _ => ?_)
theorem spec_l1New.mono : ∀ a0 k, LeO (spec_l1New.f k a0) (spec_l1New.f (k + 1) a0) := by
 intro a0 k
 have ih0 := spec_l1New.mono_l k
 unfold spec_l1New.f
 repeat' first
   | (with_reducible exact ih0 _ _ _)
   | (with_reducible exact LeO.refl _)
   | (with_reducible exact LeO.none _)
   | (with_reducible refine LeO.ite ?_ ?_)
   | (with_reducible refine LeO.bind ?_ (fun _ => ?_))
   | exact ih0 _ _ _
   | exact LeO.none _
   | refine LeO.ite ?_ ?_
   | refine LeO.bind ?_ (fun _ => ?_)
set_option maxHeartbeats 8000000 in
set_option maxRecDepth 100000 in
theorem spec_l1New.calls (k : Nat) (A0 : Option Addr) (c0 : Nat) (l0 : List Int) (r1 : List Int) (r2 : Int) (r3 : Int) (w0 w : World) (hB : Below w0.heap.size w0 w) (hr0 : Kd.C (Kd.int .u8) w0 A0 l0.length l0) (hc0 : l0.length ≤ c0) (h : spec_l1New.f k l0 = some (r1, r2, r3)) :
  Calls Tryd.prog 34 #[.slice A0 l0.length c0] w fun e w' => ∃ g_ : Nat,e = .returned (.pointer (some ⟨g_,0,none⟩)) ∧ IsS80 w0 w' g_ r1 r2 r3 ∧ Below w0.heap.size w0 w' ∧ Below w.heap.size w w' := by
 have hu80 := Tryd.underlying80
 have HR0 := QS hr0
 have HC0 := QS hc0
 clear hr0 hc0
 have HBW := QS (Below.refl w.heap.size w)
 have HW0 := QS hB.size
 have HB := QS hB
 clear hB
 have H : (spec_l1New.l0 k l0 (wrap64 (193017 + (l0.length : Int))) 0) = some (r1,r2,r3) := h
 clear h
 have H' := QS H
 clear H
 go_enter Tryd.func34,Tryd.ntmps34
 go_wp2
 go_loopg [3,4] k (fun kq v3 v4 w' => ∃ (x3_1 : Int) (x4_1 : Int),v3 = .int .i64 x3_1 ∧ v4 = .int .i64 x4_1 ∧ Aside0 (spec_l1New.l0 kq l0 x3_1 x4_1 = some (r1,r2,r3)) ∧ Aside0 (kq ≤ k) ∧ Aside0 (Below w0.heap.size w0 w') ∧ Aside0 (Below w.heap.size w w'))
 case atStart => exact ⟨(wrap64 (193017 + (l0.length : Int))),(0),(by first | rfl | (simp; done) | (simp [*]; done)),(by first | rfl | (simp; done) | (simp [*]; done)),H',⟨Nat.le_refl _⟩,⟨by repeat (first | (with_reducible first | exact HB.out | apply QC | apply QB | apply QD) | exact HB.out)⟩,⟨by repeat (first | (with_reducible first | exact HBW.out | apply QC | apply QB | apply QD) | exact HBW.out)⟩⟩
 case round =>
  clear H'
  obtain ⟨x3_1,x4_1,rfl,rfl,HA,HK1,HB,HBW⟩ := hrel
  cases gk with
  | zero => exact absurd HA.out (by simp [spec_l1New.l0])
  | succ k1 =>
   have H := HA.out
   clear HA
   simp only [spec_l1New.l0] at H
   by_cases c2 : x4_1 < (l0.length : Int)
   ·rw [if_pos c2] at H
    have c2b0 : decide (x4_1 < (l0.length : Int)) = true := decide_eq_true c2
    clear c2
    by_cases c3 : x4_1 < 4000
    ·rw [if_pos c3] at H
     have c3b0 : decide (x4_1 < 4000) = true := decide_eq_true c3
     clear c3
     by_cases c4 : 0 ≤ x4_1
     ·rw [if_pos c4] at H
      have c4b0 : decide (0 ≤ x4_1) = true := decide_eq_true c4
      clear c4
      have H' := QS H
      clear H
      have p101 : 0 ≤ (x4_1 : Int) := of_decide_eq_true (by first | (with_reducible assumption) | assumption)
      have q101 : x4_1 < (l0.length : Int) := of_decide_eq_true (by first | (with_reducible assumption) | assumption)
      obtain ⟨ad101,e101,hx101_0⟩ := Kd.at_int HR0.out x4_1 p101 q101
      cases e101
      replace hx101_0 := pw_cell_below HB.out hx101_0
      replace p101 := eq_true p101
      replace q101 := eq_true q101
      go_wp2
      go_roundg k1
      case measure => have := HK1.out; omega
      case rel => exact ⟨(Go.bits .and .i64 (wrap64 ((wrap64 ((wrap64 (x3_1 * 137)) + (wrap64 (rd l0 x4_1)))) + 11)) 1073741823),(wrap64 (x4_1 + 1)),(by first | rfl | (simp; done) | (simp [*]; done)),(by first | rfl | (simp; done) | (simp [*]; done)),H',⟨by have := HK1.out; omega⟩,⟨by repeat (first | (with_reducible first | exact HB.out | apply QC | apply QB | apply QD) | exact HB.out)⟩,⟨by repeat (first | (with_reducible first | exact HBW.out | apply QC | apply QB | apply QD) | exact HBW.out)⟩⟩
     ·rw [if_neg c4] at H
      exact absurd H (by simp)
    ·rw [if_neg c3] at H
     have c3b0 : decide (x4_1 < 4000) = false := decide_eq_false c3
     clear c3
     simp only [Option.some.injEq,Prod.mk.injEq] at H
     obtain ⟨rfl,rfl,rfl⟩ := H
     go_wp2_with (first | ((with_reducible refine gate_dst (N := 31) rfl ?_); refine box_event ?hg (N := 31) ?hd (cs := #[.slice A0 l0.length c0,.int .i64 0,.int .i64 x3_1]) (t := 80) ?hr ?_; (case hd => rfl); (case hg => rfl); (case hr => first | (go_simp; done) | (go_simp; rfl)); intro gb102 hg w5 hbox hb; have n0_ := QS (below_step HBW.out hb); have n1_ := QS (below_step (by repeat (first | (with_reducible first | exact HB.out | apply QC | apply QB | apply QD) | exact HB.out)) hb); have n2_ := QS (hbox); have n3_ := QS ((by rw [hg]; exact (below_size (by repeat (first | (with_reducible first | exact HBW.out | apply QC | apply QB | apply QD) | exact HBW.out))) : w.heap.size ≤ gb102)); have n4_ := QS ((Nat.le_trans HW0.out (by rw [hg]; exact (below_size (by repeat (first | (with_reducible first | exact HBW.out | apply QC | apply QB | apply QD) | exact HBW.out))) : w.heap.size ≤ gb102) : w0.heap.size ≤ gb102)); clear HBW; clear HB; revert n0_ n1_ n2_ n3_ n4_; intro HBW HB BK102 GW102 GE102; clear hb hbox hg))
     go_ret
     exact ⟨_,rfl,(show IsS80 w0 _ gb102 l0 0 x3_1 from ⟨_,_,by (with_reducible repeat (first | refine QI ?_ _ | refine QK ?_ | refine QJ ?_ _)); exact BK102.out,GE102.out,HR0.out⟩),by repeat (first | (with_reducible first | exact HB.out | apply QC | apply QB | apply QD | refine QG ?_ GE102.out) | exact HB.out),by repeat (first | (with_reducible first | exact HBW.out | apply QC | apply QB | apply QD | refine QG ?_ GW102.out) | exact HBW.out)⟩
   ·rw [if_neg c2] at H
    have c2b0 : decide (x4_1 < (l0.length : Int)) = false := decide_eq_false c2
    clear c2
    simp only [Option.some.injEq,Prod.mk.injEq] at H
    obtain ⟨rfl,rfl,rfl⟩ := H
    go_wp2_with (first | ((with_reducible refine gate_dst (N := 31) rfl ?_); refine box_event ?hg (N := 31) ?hd (cs := #[.slice A0 l0.length c0,.int .i64 0,.int .i64 x3_1]) (t := 80) ?hr ?_; (case hd => rfl); (case hg => rfl); (case hr => first | (go_simp; done) | (go_simp; rfl)); intro gb103 hg w6 hbox hb; have n0_ := QS (below_step HBW.out hb); have n1_ := QS (below_step (by repeat (first | (with_reducible first | exact HB.out | apply QC | apply QB | apply QD) | exact HB.out)) hb); have n2_ := QS (hbox); have n3_ := QS ((by rw [hg]; exact (below_size (by repeat (first | (with_reducible first | exact HBW.out | apply QC | apply QB | apply QD) | exact HBW.out))) : w.heap.size ≤ gb103)); have n4_ := QS ((Nat.le_trans HW0.out (by rw [hg]; exact (below_size (by repeat (first | (with_reducible first | exact HBW.out | apply QC | apply QB | apply QD) | exact HBW.out))) : w.heap.size ≤ gb103) : w0.heap.size ≤ gb103)); clear HBW; clear HB; revert n0_ n1_ n2_ n3_ n4_; intro HBW HB BK103 GW103 GE103; clear hb hbox hg))
    go_ret
    exact ⟨_,rfl,(show IsS80 w0 _ gb103 l0 0 x3_1 from ⟨_,_,by (with_reducible repeat (first | refine QI ?_ _ | refine QK ?_ | refine QJ ?_ _)); exact BK103.out,GE103.out,HR0.out⟩),by repeat (first | (with_reducible first | exact HB.out | apply QC | apply QB | apply QD | refine QG ?_ GE103.out) | exact HB.out),by repeat (first | (with_reducible first | exact HBW.out | apply QC | apply QB | apply QD | refine QG ?_ GW103.out) | exact HBW.out)⟩

/-! ### spec_l1Byte: function 64 -/
def spec_l1Byte.f (s0_0 : List Int) (s0_1 : Int) (s0_2 : Int) : Option (Int × Int × Int) := if s0_1 < (s0_0.length : Int) then (if 0 ≤ s0_1 then (some (Go.bits .and .i64 (wrap64 ((Go.bits .and .i64 (Go.bits .xor .i64 ((wrap64 ((wrap64 (s0_2 * 6364136223846793005)) + 1442695040888963407)) / 8589934592) ((wrap64 ((wrap64 (s0_2 * 6364136223846793005)) + 1442695040888963407)) / 140737488355328)) 255) + (wrap64 (rd s0_0 s0_1)))) 255, wrap64 (s0_1 + 1), wrap64 ((wrap64 (s0_2 * 6364136223846793005)) + 1442695040888963407))) else (none)) else (some (Go.bits .and .i64 (Go.bits .xor .i64 ((wrap64 ((wrap64 (s0_2 * 6364136223846793005)) + 1442695040888963407)) / 8589934592) ((wrap64 ((wrap64 (s0_2 * 6364136223846793005)) + 1442695040888963407)) / 140737488355328)) 255, s0_1, wrap64 ((wrap64 (s0_2 * 6364136223846793005)) + 1442695040888963407)))
set_option maxHeartbeats 8000000 in
set_option maxRecDepth 100000 in
theorem spec_l1Byte.calls (g : Nat) (s0_0 : List Int) (s0_1 : Int) (s0_2 : Int) (r1 : Int) (r2 : Int) (r3 : Int) (w0 w : World) (hI : IsS80 w0 w g s0_0 s0_1 s0_2) (hB : Below w0.heap.size w0 w) (h : spec_l1Byte.f s0_0 s0_1 s0_2 = some (r1, r2, r3)) :
  Calls Tryd.prog 64 #[.pointer (some ⟨g,0,none⟩)] w fun e w' => e = .returned (.int .i64 r1) ∧ IsS80 w0 w' g s0_0 r2 r3 ∧ Below w0.heap.size w0 w' ∧ KeepBut w w' g none := by
 have HI0 := QS hI
 have HK := QS (KeepBut.refl w g none)
 have HL := QS hB.size
 clear hI
 have HW0 := QS hB.size
 have HB := QS hB
 clear hB
 have H : (if s0_1 < (s0_0.length : Int) then (if 0 ≤ s0_1 then (some (Go.bits .and .i64 (wrap64 ((Go.bits .and .i64 (Go.bits .xor .i64 ((wrap64 ((wrap64 (s0_2 * 6364136223846793005)) + 1442695040888963407)) / 8589934592) ((wrap64 ((wrap64 (s0_2 * 6364136223846793005)) + 1442695040888963407)) / 140737488355328)) 255) + (wrap64 (rd s0_0 s0_1)))) 255,wrap64 (s0_1 + 1),wrap64 ((wrap64 (s0_2 * 6364136223846793005)) + 1442695040888963407))) else (none)) else (some (Go.bits .and .i64 (Go.bits .xor .i64 ((wrap64 ((wrap64 (s0_2 * 6364136223846793005)) + 1442695040888963407)) / 8589934592) ((wrap64 ((wrap64 (s0_2 * 6364136223846793005)) + 1442695040888963407)) / 140737488355328)) 255,s0_1,wrap64 ((wrap64 (s0_2 * 6364136223846793005)) + 1442695040888963407)))) = some (r1,r2,r3) := h
 clear h
 by_cases c2 : s0_1 < (s0_0.length : Int)
 ·rw [if_pos c2] at H
  have c2b0 : decide (s0_1 < (s0_0.length : Int)) = true := decide_eq_true c2
  clear c2
  by_cases c3 : 0 ≤ s0_1
  ·rw [if_pos c3] at H
   have c3b0 : decide (0 ≤ s0_1) = true := decide_eq_true c3
   clear c3
   simp only [Option.some.injEq,Prod.mk.injEq] at H
   obtain ⟨rfl,rfl,rfl⟩ := H
   obtain ⟨ASz4_0,cSz4_0,HGz4,hgz4,HSz4_0⟩ := HI0.out
   have hcz4_0 := cellS80_0 HGz4
   have hcz4_1 := cellS80_1 HGz4
   have hcz4_2 := cellS80_2 HGz4
   have hfz4_1 := blk_frozen HGz4 1
   have hfz4_2 := blk_frozen HGz4 2
   clear HGz4 hgz4
   have p104 : 0 ≤ (s0_1 : Int) := of_decide_eq_true (by first | (with_reducible assumption) | assumption)
   have q104 : s0_1 < (s0_0.length : Int) := of_decide_eq_true (by first | (with_reducible assumption) | assumption)
   obtain ⟨ad104,e104,hx104_0⟩ := Kd.at_int HSz4_0 s0_1 p104 q104
   cases e104
   have hn104_0 : ad104.block ≠ g := Nat.ne_of_lt (Nat.lt_of_lt_of_le (by have := World.block_lt_of_cell? _ _ hx104_0; first | rwa [add_block] at this | exact this) (IsS80.ge HI0.out))
   replace hx104_0 := pw_cell_below HB.out hx104_0
   replace hx104_0 := (cell_far (p := ⟨g,2,none⟩) (by first | (rw [add_block]; exact hn104_0) | (show (Addr.add _ _).block ≠ _; rw [add_block]; exact hn104_0) | exact hn104_0) (.int .i64 (wrap64 ((wrap64 (s0_2 * 6364136223846793005)) + 1442695040888963407)))).trans hx104_0
   (try have hy104_0 := fun (n_ : Nat) => (show (((w.drewN n_).setCell ⟨g,2,none⟩ (.int .i64 (wrap64 ((wrap64 (s0_2 * 6364136223846793005)) + 1442695040888963407))))).cell? _ = some _ from hx104_0))
   clear hn104_0
   replace p104 := eq_true p104
   replace q104 := eq_true q104
   go_enter Tryd.func64,Tryd.ntmps64
   go_wp2
   repeat (go_quiet (fail); try go_wp2)
   go_ret
   exact ⟨by first | rfl | (simp [errW_none,errW_some] <;> rfl) | (simp [*,errW_none,errW_some] <;> rfl),by repeat (first | (with_reducible first | exact HI0.out | apply IsS80.alloc | apply IsS80.drewN | apply IsS80.drew | apply IsS80.set_1 | apply IsS80.set_2) | exact HI0.out),by repeat (first | (with_reducible first | exact HB.out | apply QC | apply QB | apply QD | refine QG ?_ (IsS80.ge HI0.out)) | exact HB.out),by repeat (first | (with_reducible first | exact HK.out | apply KeepBut.set_ | apply QE | apply QH | apply QF) | exact HK.out)⟩
  ·rw [if_neg c3] at H
   exact absurd H (by simp)
 ·rw [if_neg c2] at H
  have c2b0 : decide (s0_1 < (s0_0.length : Int)) = false := decide_eq_false c2
  clear c2
  simp only [Option.some.injEq,Prod.mk.injEq] at H
  obtain ⟨rfl,rfl,rfl⟩ := H
  obtain ⟨ASz5_0,cSz5_0,HGz5,hgz5,HSz5_0⟩ := HI0.out
  have hcz5_0 := cellS80_0 HGz5
  have hcz5_1 := cellS80_1 HGz5
  have hcz5_2 := cellS80_2 HGz5
  have hfz5_1 := blk_frozen HGz5 1
  have hfz5_2 := blk_frozen HGz5 2
  clear HGz5 hgz5
  go_enter Tryd.func64,Tryd.ntmps64
  go_wp2
  repeat (go_quiet (fail); try go_wp2)
  go_ret
  exact ⟨by first | rfl | (simp [errW_none,errW_some] <;> rfl) | (simp [*,errW_none,errW_some] <;> rfl),by repeat (first | (with_reducible first | exact HI0.out | apply IsS80.alloc | apply IsS80.drewN | apply IsS80.drew | apply IsS80.set_1 | apply IsS80.set_2) | exact HI0.out),by repeat (first | (with_reducible first | exact HB.out | apply QC | apply QB | apply QD | refine QG ?_ (IsS80.ge HI0.out)) | exact HB.out),by repeat (first | (with_reducible first | exact HK.out | apply KeepBut.set_ | apply QE | apply QH | apply QF) | exact HK.out)⟩

/-! ### spec_l1Below: function 38 -/
def spec_l1Below.f (s0_0 : List Int) (s0_1 : Int) (s0_2 : Int) (a1 : Int) : Option (Int × Int × Int) := if a1 ≤ 0 then (some (0, s0_1, s0_2)) else (if a1 ≤ 256 then ((spec_l1Byte.f s0_0 s0_1 s0_2).bind fun bt105 => (if a1 = 0 then (none) else (some (Int.tmod bt105.1 a1, bt105.2.1, bt105.2.2)))) else ((spec_l1Byte.f s0_0 s0_1 s0_2).bind fun bt108 => ((spec_l1Byte.f s0_0 bt108.2.1 bt108.2.2).bind fun bt111 => ((spec_l1Byte.f s0_0 bt111.2.1 bt111.2.2).bind fun bt114 => (if a1 = 0 then (none) else (some (Int.tmod (wrap64 ((wrap64 ((wrap64 (bt108.1 * 65536)) + (wrap64 (bt111.1 * 256)))) + bt114.1)) a1, bt114.2.1, bt114.2.2)))))))
set_option maxHeartbeats 8000000 in
set_option maxRecDepth 100000 in
theorem spec_l1Below.calls (g : Nat) (s0_0 : List Int) (s0_1 : Int) (s0_2 : Int) (a1 : Int) (r1 : Int) (r2 : Int) (r3 : Int) (w0 w : World) (hI : IsS80 w0 w g s0_0 s0_1 s0_2) (hB : Below w0.heap.size w0 w) (h : spec_l1Below.f s0_0 s0_1 s0_2 a1 = some (r1, r2, r3)) :
  Calls Tryd.prog 38 #[.pointer (some ⟨g,0,none⟩),.int .i64 a1] w fun e w' => e = .returned (.int .i64 r1) ∧ IsS80 w0 w' g s0_0 r2 r3 ∧ Below w0.heap.size w0 w' ∧ KeepBut w w' g none := by
 have HI0 := QS hI
 have HK := QS (KeepBut.refl w g none)
 have HL := QS hB.size
 clear hI
 have HW0 := QS hB.size
 have HB := QS hB
 clear hB
 have H : (if a1 ≤ 0 then (some (0,s0_1,s0_2)) else (if a1 ≤ 256 then ((spec_l1Byte.f s0_0 s0_1 s0_2).bind fun bt105 => (if a1 = 0 then (none) else (some (Int.tmod bt105.1 a1,bt105.2.1,bt105.2.2)))) else ((spec_l1Byte.f s0_0 s0_1 s0_2).bind fun bt108 => ((spec_l1Byte.f s0_0 bt108.2.1 bt108.2.2).bind fun bt111 => ((spec_l1Byte.f s0_0 bt111.2.1 bt111.2.2).bind fun bt114 => (if a1 = 0 then (none) else (some (Int.tmod (wrap64 ((wrap64 ((wrap64 (bt108.1 * 65536)) + (wrap64 (bt111.1 * 256)))) + bt114.1)) a1,bt114.2.1,bt114.2.2)))))))) = some (r1,r2,r3) := h
 clear h
 by_cases c3 : a1 ≤ 0
 ·rw [if_pos c3] at H
  have c3b0 : decide (a1 ≤ 0) = true := decide_eq_true c3
  clear c3
  simp only [Option.some.injEq,Prod.mk.injEq] at H
  obtain ⟨rfl,rfl,rfl⟩ := H
  go_enter Tryd.func38,Tryd.ntmps38
  go_wp2
  go_ret
  exact ⟨by first | rfl | (simp [errW_none,errW_some] <;> rfl) | (simp [*,errW_none,errW_some] <;> rfl),by repeat (first | (with_reducible first | exact HI0.out | apply IsS80.alloc | apply IsS80.drewN | apply IsS80.drew | apply IsS80.set_1 | apply IsS80.set_2) | exact HI0.out),by repeat (first | (with_reducible first | exact HB.out | apply QC | apply QB | apply QD | refine QG ?_ (IsS80.ge HI0.out)) | exact HB.out),by repeat (first | (with_reducible first | exact HK.out | apply KeepBut.set_ | apply QE | apply QH | apply QF) | exact HK.out)⟩
 ·rw [if_neg c3] at H
  have c3b0 : decide (a1 ≤ 0) = false := decide_eq_false c3
  clear c3
  by_cases c4 : a1 ≤ 256
  ·rw [if_pos c4] at H
   have c4b0 : decide (a1 ≤ 256) = true := decide_eq_true c4
   clear c4
   replace H := QT.mp H
   obtain ⟨⟨t105,t106,t107⟩,A50,H⟩ := H
   replace H : (if a1 = 0 then (none) else (some (Int.tmod t105 a1,t106,t107))) = some (r1,r2,r3) := H
   have A5 := QS A50
   clear A50
   by_cases c6 : a1 = 0
   ·rw [if_pos c6] at H
    exact absurd H (by simp)
   ·rw [if_neg c6] at H
    have c6b0 : (a1 == 0) = false := beq_eq_false_iff_ne.mpr c6
    have c6b1 : (a1 != 0) = true := bne_iff_ne.mpr c6
    simp only [Option.some.injEq,Prod.mk.injEq] at H
    obtain ⟨rfl,rfl,rfl⟩ := H
    go_enter Tryd.func38,Tryd.ntmps38
    go_wp2_with (first | ((with_reducible refine QL (f := 64) rfl ?_); refine goesL_ (some 13) rfl rfl Tryd.func64 (by kernel_rfl) rfl #[.pointer (some ⟨g,0,none⟩)] rfl (by (try simp only [List.map_toArray,List.map_cons,List.map_nil]); first | done | rfl | (simp only [List.length_drop,List.length_take]; rfl)) ?_; (with_reducible refine (spec_l1Byte.calls g s0_0 s0_1 s0_2 t105 t106 t107 w0 _ ?side1 ?side2 A5.out).mono ?_); (case side1 => repeat (first | (with_reducible first | exact HI0.out | apply IsS80.alloc | apply IsS80.drewN | apply IsS80.drew | apply IsS80.set_1 | apply IsS80.set_2) | exact HI0.out)); (case side2 => repeat (first | (with_reducible first | exact HB.out | apply QC | apply QB | apply QD | refine QG ?_ (IsS80.ge HI0.out)) | exact HB.out)); rintro e w7 ⟨rfl,hi,hb,hk⟩; refine ⟨_,rfl,?_⟩; have n0_ := QS (KeepBut.trans (by repeat (first | (with_reducible first | exact HK.out | apply KeepBut.set_ | apply QE | apply QH | apply QF) | exact HK.out)) hk (.inl rfl)); have n1_ := QS (hb); have n2_ := QS (hi); clear HK; clear HB; clear HI0; revert n0_ n1_ n2_; intro HK HB HI0; (try clear hb); (try clear hk); (try clear hi)))
    go_ret
    exact ⟨by first | rfl | (simp [errW_none,errW_some] <;> rfl) | (simp [*,errW_none,errW_some] <;> rfl),by repeat (first | (with_reducible first | exact HI0.out | apply IsS80.alloc | apply IsS80.drewN | apply IsS80.drew | apply IsS80.set_1 | apply IsS80.set_2) | exact HI0.out),by repeat (first | (with_reducible first | exact HB.out | apply QC | apply QB | apply QD | refine QG ?_ (IsS80.ge HI0.out)) | exact HB.out),by repeat (first | (with_reducible first | exact HK.out | apply KeepBut.set_ | apply QE | apply QH | apply QF) | exact HK.out)⟩
  ·rw [if_neg c4] at H
   have c4b0 : decide (a1 ≤ 256) = false := decide_eq_false c4
   clear c4
   replace H := QT.mp H
   obtain ⟨⟨t108,t109,t110⟩,A80,H⟩ := H
   replace H : ((spec_l1Byte.f s0_0 t109 t110).bind fun bt111 => ((spec_l1Byte.f s0_0 bt111.2.1 bt111.2.2).bind fun bt114 => (if a1 = 0 then (none) else (some (Int.tmod (wrap64 ((wrap64 ((wrap64 (t108 * 65536)) + (wrap64 (bt111.1 * 256)))) + bt114.1)) a1,bt114.2.1,bt114.2.2))))) = some (r1,r2,r3) := H
   have A8 := QS A80
   clear A80
   replace H := QT.mp H
   obtain ⟨⟨t111,t112,t113⟩,A90,H⟩ := H
   replace H : ((spec_l1Byte.f s0_0 t112 t113).bind fun bt114 => (if a1 = 0 then (none) else (some (Int.tmod (wrap64 ((wrap64 ((wrap64 (t108 * 65536)) + (wrap64 (t111 * 256)))) + bt114.1)) a1,bt114.2.1,bt114.2.2)))) = some (r1,r2,r3) := H
   have A9 := QS A90
   clear A90
   replace H := QT.mp H
   obtain ⟨⟨t114,t115,t116⟩,A100,H⟩ := H
   replace H : (if a1 = 0 then (none) else (some (Int.tmod (wrap64 ((wrap64 ((wrap64 (t108 * 65536)) + (wrap64 (t111 * 256)))) + t114)) a1,t115,t116))) = some (r1,r2,r3) := H
   have A10 := QS A100
   clear A100
   by_cases c11 : a1 = 0
   ·rw [if_pos c11] at H
    exact absurd H (by simp)
   ·rw [if_neg c11] at H
    have c11b0 : (a1 == 0) = false := beq_eq_false_iff_ne.mpr c11
    have c11b1 : (a1 != 0) = true := bne_iff_ne.mpr c11
    simp only [Option.some.injEq,Prod.mk.injEq] at H
    obtain ⟨rfl,rfl,rfl⟩ := H
    go_enter Tryd.func38,Tryd.ntmps38
    go_wp2_with (first | ((with_reducible refine QL (f := 64) rfl ?_); refine goesL_ (some 17) rfl rfl Tryd.func64 (by kernel_rfl) rfl #[.pointer (some ⟨g,0,none⟩)] rfl (by (try simp only [List.map_toArray,List.map_cons,List.map_nil]); first | done | rfl | (simp only [List.length_drop,List.length_take]; rfl)) ?_; (with_reducible refine (spec_l1Byte.calls g s0_0 s0_1 s0_2 t108 t109 t110 w0 _ ?side1 ?side2 A8.out).mono ?_); (case side1 => repeat (first | (with_reducible first | exact HI0.out | apply IsS80.alloc | apply IsS80.drewN | apply IsS80.drew | apply IsS80.set_1 | apply IsS80.set_2) | exact HI0.out)); (case side2 => repeat (first | (with_reducible first | exact HB.out | apply QC | apply QB | apply QD | refine QG ?_ (IsS80.ge HI0.out)) | exact HB.out)); rintro e w12 ⟨rfl,hi,hb,hk⟩; refine ⟨_,rfl,?_⟩; have n0_ := QS (KeepBut.trans (by repeat (first | (with_reducible first | exact HK.out | apply KeepBut.set_ | apply QE | apply QH | apply QF) | exact HK.out)) hk (.inl rfl)); have n1_ := QS (hb); have n2_ := QS (hi); clear HK; clear HB; clear HI0; revert n0_ n1_ n2_; intro HK HB HI0; (try clear hb); (try clear hk); (try clear hi)) | ((with_reducible refine QL (f := 64) rfl ?_); refine goesL_ (some 19) rfl rfl Tryd.func64 (by kernel_rfl) rfl #[.pointer (some ⟨g,0,none⟩)] rfl (by (try simp only [List.map_toArray,List.map_cons,List.map_nil]); first | done | rfl | (simp only [List.length_drop,List.length_take]; rfl)) ?_; (with_reducible refine (spec_l1Byte.calls g s0_0 t109 t110 t111 t112 t113 w0 _ ?side1 ?side2 A9.out).mono ?_); (case side1 => repeat (first | (with_reducible first | exact HI0.out | apply IsS80.alloc | apply IsS80.drewN | apply IsS80.drew | apply IsS80.set_1 | apply IsS80.set_2) | exact HI0.out)); (case side2 => repeat (first | (with_reducible first | exact HB.out | apply QC | apply QB | apply QD | refine QG ?_ (IsS80.ge HI0.out)) | exact HB.out)); rintro e w13 ⟨rfl,hi,hb,hk⟩; refine ⟨_,rfl,?_⟩; have n0_ := QS (KeepBut.trans (by repeat (first | (with_reducible first | exact HK.out | apply KeepBut.set_ | apply QE | apply QH | apply QF) | exact HK.out)) hk (.inl rfl)); have n1_ := QS (hb); have n2_ := QS (hi); clear HK; clear HB; clear HI0; revert n0_ n1_ n2_; intro HK HB HI0; (try clear hb); (try clear hk); (try clear hi)) | ((with_reducible refine QL (f := 64) rfl ?_); refine goesL_ (some 21) rfl rfl Tryd.func64 (by kernel_rfl) rfl #[.pointer (some ⟨g,0,none⟩)] rfl (by (try simp only [List.map_toArray,List.map_cons,List.map_nil]); first | done | rfl | (simp only [List.length_drop,List.length_take]; rfl)) ?_; (with_reducible refine (spec_l1Byte.calls g s0_0 t112 t113 t114 t115 t116 w0 _ ?side1 ?side2 A10.out).mono ?_); (case side1 => repeat (first | (with_reducible first | exact HI0.out | apply IsS80.alloc | apply IsS80.drewN | apply IsS80.drew | apply IsS80.set_1 | apply IsS80.set_2) | exact HI0.out)); (case side2 => repeat (first | (with_reducible first | exact HB.out | apply QC | apply QB | apply QD | refine QG ?_ (IsS80.ge HI0.out)) | exact HB.out)); rintro e w14 ⟨rfl,hi,hb,hk⟩; refine ⟨_,rfl,?_⟩; have n0_ := QS (KeepBut.trans (by repeat (first | (with_reducible first | exact HK.out | apply KeepBut.set_ | apply QE | apply QH | apply QF) | exact HK.out)) hk (.inl rfl)); have n1_ := QS (hb); have n2_ := QS (hi); clear HK; clear HB; clear HI0; revert n0_ n1_ n2_; intro HK HB HI0; (try clear hb); (try clear hk); (try clear hi)))
    go_ret
    exact ⟨by first | rfl | (simp [errW_none,errW_some] <;> rfl) | (simp [*,errW_none,errW_some] <;> rfl),by repeat (first | (with_reducible first | exact HI0.out | apply IsS80.alloc | apply IsS80.drewN | apply IsS80.drew | apply IsS80.set_1 | apply IsS80.set_2) | exact HI0.out),by repeat (first | (with_reducible first | exact HB.out | apply QC | apply QB | apply QD | refine QG ?_ (IsS80.ge HI0.out)) | exact HB.out),by repeat (first | (with_reducible first | exact HK.out | apply KeepBut.set_ | apply QE | apply QH | apply QF) | exact HK.out)⟩

/-! ### spec_l1Once: function 80 -/
def spec_l1Once.f (s0_0 : List Int) (s0_1 : Int) (s0_2 : Int) (a1 : Int) : Option (Bool × Int × Int) := (spec_l1Below.f s0_0 s0_1 s0_2 a1).bind fun bt117 => (some ((bt117.1 == 0), bt117.2.1, bt117.2.2))
set_option maxHeartbeats 8000000 in
set_option maxRecDepth 100000 in
theorem spec_l1Once.calls (g : Nat) (s0_0 : List Int) (s0_1 : Int) (s0_2 : Int) (a1 : Int) (r1 : Bool) (r2 : Int) (r3 : Int) (w0 w : World) (hI : IsS80 w0 w g s0_0 s0_1 s0_2) (hB : Below w0.heap.size w0 w) (h : spec_l1Once.f s0_0 s0_1 s0_2 a1 = some (r1, r2, r3)) :
  Calls Tryd.prog 80 #[.pointer (some ⟨g,0,none⟩),.int .i64 a1] w fun e w' => e = .returned (.bool r1) ∧ IsS80 w0 w' g s0_0 r2 r3 ∧ Below w0.heap.size w0 w' ∧ KeepBut w w' g none := by
 have HI0 := QS hI
 have HK := QS (KeepBut.refl w g none)
 have HL := QS hB.size
 clear hI
 have HW0 := QS hB.size
 have HB := QS hB
 clear hB
 have H : ((spec_l1Below.f s0_0 s0_1 s0_2 a1).bind fun bt117 => (some ((bt117.1 == 0),bt117.2.1,bt117.2.2))) = some (r1,r2,r3) := h
 clear h
 replace H := QT.mp H
 obtain ⟨⟨t117,t118,t119⟩,A30,H⟩ := H
 replace H : (some ((t117 == 0),t118,t119)) = some (r1,r2,r3) := H
 have A3 := QS A30
 clear A30
 simp only [Option.some.injEq,Prod.mk.injEq] at H
 obtain ⟨rfl,rfl,rfl⟩ := H
 go_enter Tryd.func80,Tryd.ntmps80
 go_wp2_with (first | ((with_reducible refine QL (f := 38) rfl ?_); refine goesL_ (some 7) rfl rfl Tryd.func38 (by kernel_rfl) rfl #[.pointer (some ⟨g,0,none⟩),.int .i64 a1] rfl (by (try simp only [List.map_toArray,List.map_cons,List.map_nil]); first | done | rfl | (simp only [List.length_drop,List.length_take]; rfl)) ?_; (with_reducible refine (spec_l1Below.calls g s0_0 s0_1 s0_2 a1 t117 t118 t119 w0 _ ?side1 ?side2 A3.out).mono ?_); (case side1 => repeat (first | (with_reducible first | exact HI0.out | apply IsS80.alloc | apply IsS80.drewN | apply IsS80.drew | apply IsS80.set_1 | apply IsS80.set_2) | exact HI0.out)); (case side2 => repeat (first | (with_reducible first | exact HB.out | apply QC | apply QB | apply QD | refine QG ?_ (IsS80.ge HI0.out)) | exact HB.out)); rintro e w4 ⟨rfl,hi,hb,hk⟩; refine ⟨_,rfl,?_⟩; have n0_ := QS (KeepBut.trans (by repeat (first | (with_reducible first | exact HK.out | apply KeepBut.set_ | apply QE | apply QH | apply QF) | exact HK.out)) hk (.inl rfl)); have n1_ := QS (hb); have n2_ := QS (hi); clear HK; clear HB; clear HI0; revert n0_ n1_ n2_; intro HK HB HI0; (try clear hb); (try clear hk); (try clear hi)))
 go_ret
 exact ⟨by first | rfl | (simp [errW_none,errW_some] <;> rfl) | (simp [*,errW_none,errW_some] <;> rfl),by repeat (first | (with_reducible first | exact HI0.out | apply IsS80.alloc | apply IsS80.drewN | apply IsS80.drew | apply IsS80.set_1 | apply IsS80.set_2) | exact HI0.out),by repeat (first | (with_reducible first | exact HB.out | apply QC | apply QB | apply QD | refine QG ?_ (IsS80.ge HI0.out)) | exact HB.out),by repeat (first | (with_reducible first | exact HK.out | apply KeepBut.set_ | apply QE | apply QH | apply QF) | exact HK.out)⟩

/-! ### spec_l1Int: function 62 -/
def spec_l1Int.f (s0_0 : List Int) (s0_1 : Int) (s0_2 : Int) (l1 : List Int) : Option (Int × Int × Int) := (spec_l1Below.f s0_0 s0_1 s0_2 (l1.length : Int)).bind fun bt120 => (if 0 ≤ bt120.1 then (if bt120.1 < (l1.length : Int) then (some (rd l1 bt120.1, bt120.2.1, bt120.2.2)) else (none)) else (none))
set_option maxHeartbeats 8000000 in
set_option maxRecDepth 100000 in
theorem spec_l1Int.calls (g : Nat) (s0_0 : List Int) (s0_1 : Int) (s0_2 : Int) (A1 : Option Addr) (c1 : Nat) (l1 : List Int) (r1 : Int) (r2 : Int) (r3 : Int) (w0 w : World) (hI : IsS80 w0 w g s0_0 s0_1 s0_2) (hB : Below w0.heap.size w0 w) (hr1 : Kd.C (Kd.int .i64) w A1 l1.length l1) (hc1 : l1.length ≤ c1) (hf1 : ∀ ad, A1 = some ad → 0 < l1.length → ad.block ≠ g) (h : spec_l1Int.f s0_0 s0_1 s0_2 l1 = some (r1, r2, r3)) :
  Calls Tryd.prog 62 #[.pointer (some ⟨g,0,none⟩),.slice A1 l1.length c1] w fun e w' => e = .returned (.int .i64 r1) ∧ IsS80 w0 w' g s0_0 r2 r3 ∧ Below w0.heap.size w0 w' ∧ KeepBut w w' g none := by
 have HR1 := QS hr1
 have HC1 := QS hc1
 clear hr1 hc1
 have HI0 := QS hI
 have HK := QS (KeepBut.refl w g none)
 have HL := QS hB.size
 clear hI
 have HW0 := QS hB.size
 have HB := QS hB
 clear hB
 have H : ((spec_l1Below.f s0_0 s0_1 s0_2 (l1.length : Int)).bind fun bt120 => (if 0 ≤ bt120.1 then (if bt120.1 < (l1.length : Int) then (some (rd l1 bt120.1,bt120.2.1,bt120.2.2)) else (none)) else (none))) = some (r1,r2,r3) := h
 clear h
 replace H := QT.mp H
 obtain ⟨⟨t120,t121,t122⟩,A30,H⟩ := H
 replace H : (if 0 ≤ t120 then (if t120 < (l1.length : Int) then (some (rd l1 t120,t121,t122)) else (none)) else (none)) = some (r1,r2,r3) := H
 have A3 := QS A30
 clear A30
 by_cases c4 : 0 ≤ t120
 ·rw [if_pos c4] at H
  have c4b0 : decide (0 ≤ t120) = true := decide_eq_true c4
  clear c4
  by_cases c5 : t120 < (l1.length : Int)
  ·rw [if_pos c5] at H
   have c5b0 : decide (t120 < (l1.length : Int)) = true := decide_eq_true c5
   clear c5
   simp only [Option.some.injEq,Prod.mk.injEq] at H
   obtain ⟨rfl,rfl,rfl⟩ := H
   go_enter Tryd.func62,Tryd.ntmps62
   go_wp2_with (first | ((with_reducible refine QL (f := 38) rfl ?_); refine goesL_ (some 9) rfl rfl Tryd.func38 (by kernel_rfl) rfl #[.pointer (some ⟨g,0,none⟩),.int .i64 (l1.length : Int)] rfl (by (try simp only [List.map_toArray,List.map_cons,List.map_nil]); first | done | rfl | (simp only [List.length_drop,List.length_take]; rfl)) ?_; (with_reducible refine (spec_l1Below.calls g s0_0 s0_1 s0_2 (l1.length : Int) t120 t121 t122 w0 _ ?side1 ?side2 A3.out).mono ?_); (case side1 => repeat (first | (with_reducible first | exact HI0.out | apply IsS80.alloc | apply IsS80.drewN | apply IsS80.drew | apply IsS80.set_1 | apply IsS80.set_2) | exact HI0.out)); (case side2 => repeat (first | (with_reducible first | exact HB.out | apply QC | apply QB | apply QD | refine QG ?_ (IsS80.ge HI0.out)) | exact HB.out)); rintro e w6 ⟨rfl,hi,hb,hk⟩; refine ⟨_,rfl,?_⟩; have n0_ := QS (KeepBut.trans (by repeat (first | (with_reducible first | exact HK.out | apply KeepBut.set_ | apply QE | apply QH | apply QF) | exact HK.out)) hk (.inl rfl)); have n1_ := QS (hb); have n2_ := QS (hi); clear HK; clear HB; clear HI0; revert n0_ n1_ n2_; intro HK HB HI0; (try clear hb); (try clear hk); (try clear hi); have p123 : 0 ≤ (t120 : Int) := of_decide_eq_true (by first | (with_reducible assumption) | assumption); have q123 : t120 < (l1.length : Int) := of_decide_eq_true (by first | (with_reducible assumption) | assumption); obtain ⟨ad123,e123,hx123_0⟩ := Kd.at_int HR1.out t120 p123 q123; cases e123; replace hx123_0 := keep_cell HK.out hx123_0 (by first | (rw [add_block]; exact hf1 _ rfl (by omega)) | exact hf1 _ rfl (by omega) | exact hf1 ad123 rfl (by omega)); replace p123 := eq_true p123; replace q123 := eq_true q123))
   go_ret
   exact ⟨by first | rfl | (simp [errW_none,errW_some] <;> rfl) | (simp [*,errW_none,errW_some] <;> rfl),by repeat (first | (with_reducible first | exact HI0.out | apply IsS80.alloc | apply IsS80.drewN | apply IsS80.drew | apply IsS80.set_1 | apply IsS80.set_2) | exact HI0.out),by repeat (first | (with_reducible first | exact HB.out | apply QC | apply QB | apply QD | refine QG ?_ (IsS80.ge HI0.out)) | exact HB.out),by repeat (first | (with_reducible first | exact HK.out | apply KeepBut.set_ | apply QE | apply QH | apply QF) | exact HK.out)⟩
  ·rw [if_neg c5] at H
   exact absurd H (by simp)
 ·rw [if_neg c4] at H
  exact absurd H (by simp)

/-! ### spec_l8Leaves: function 95 -/
def spec_l8Leaves.f (s0_0 : List Int) (s0_1 : Int) (s0_2 : Int) : Option (Int × Int × Int) := (spec_l1Below.f s0_0 s0_1 s0_2 4).bind fun bt124 => ((spec_l1Below.f s0_0 bt124.2.1 bt124.2.2 13).bind fun bt127 => ((spec_l1Below.f s0_0 bt127.2.1 bt127.2.2 13).bind fun bt130 => ((spec_l1Int.f s0_0 bt130.2.1 bt130.2.2 (([wrap64 (100 + bt124.1), wrap64 (200 + bt127.1), wrap64 (300 + bt130.1), 400] : List Int))).bind fun bt136 => (some (bt136.1, bt136.2.1, bt136.2.2)))))
set_option maxHeartbeats 8000000 in
set_option maxRecDepth 100000 in
theorem spec_l8Leaves.calls (g : Nat) (s0_0 : List Int) (s0_1 : Int) (s0_2 : Int) (r1 : Int) (r2 : Int) (r3 : Int) (w0 w : World) (hI : IsS80 w0 w g s0_0 s0_1 s0_2) (hB : Below w0.heap.size w0 w) (h : spec_l8Leaves.f s0_0 s0_1 s0_2 = some (r1, r2, r3)) :
  Calls Tryd.prog 95 #[.pointer (some ⟨g,0,none⟩)] w fun e w' => e = .returned (.int .i64 r1) ∧ IsS80 w0 w' g s0_0 r2 r3 ∧ Below w0.heap.size w0 w' ∧ KeepBut w w' g none := by
 have HI0 := QS hI
 have HK := QS (KeepBut.refl w g none)
 have HL := QS hB.size
 clear hI
 have HW0 := QS hB.size
 have HB := QS hB
 clear hB
 have H : ((spec_l1Below.f s0_0 s0_1 s0_2 4).bind fun bt124 => ((spec_l1Below.f s0_0 bt124.2.1 bt124.2.2 13).bind fun bt127 => ((spec_l1Below.f s0_0 bt127.2.1 bt127.2.2 13).bind fun bt130 => ((spec_l1Int.f s0_0 bt130.2.1 bt130.2.2 (([wrap64 (100 + bt124.1),wrap64 (200 + bt127.1),wrap64 (300 + bt130.1),400] : List Int))).bind fun bt136 => (some (bt136.1,bt136.2.1,bt136.2.2)))))) = some (r1,r2,r3) := h
 clear h
 replace H := QT.mp H
 obtain ⟨⟨t124,t125,t126⟩,A20,H⟩ := H
 replace H : ((spec_l1Below.f s0_0 t125 t126 13).bind fun bt127 => ((spec_l1Below.f s0_0 bt127.2.1 bt127.2.2 13).bind fun bt130 => ((spec_l1Int.f s0_0 bt130.2.1 bt130.2.2 (([wrap64 (100 + t124),wrap64 (200 + bt127.1),wrap64 (300 + bt130.1),400] : List Int))).bind fun bt136 => (some (bt136.1,bt136.2.1,bt136.2.2))))) = some (r1,r2,r3) := H
 have A2 := QS A20
 clear A20
 replace H := QT.mp H
 obtain ⟨⟨t127,t128,t129⟩,A30,H⟩ := H
 replace H : ((spec_l1Below.f s0_0 t128 t129 13).bind fun bt130 => ((spec_l1Int.f s0_0 bt130.2.1 bt130.2.2 (([wrap64 (100 + t124),wrap64 (200 + t127),wrap64 (300 + bt130.1),400] : List Int))).bind fun bt136 => (some (bt136.1,bt136.2.1,bt136.2.2)))) = some (r1,r2,r3) := H
 have A3 := QS A30
 clear A30
 replace H := QT.mp H
 obtain ⟨⟨t130,t131,t132⟩,A40,H⟩ := H
 replace H : ((spec_l1Int.f s0_0 t131 t132 (([wrap64 (100 + t124),wrap64 (200 + t127),wrap64 (300 + t130),400] : List Int))).bind fun bt136 => (some (bt136.1,bt136.2.1,bt136.2.2))) = some (r1,r2,r3) := H
 have A4 := QS A40
 clear A40
 obtain ⟨y133,hy133⟩ : ∃ y_ : List Int,y_ = (([wrap64 (100 + t124),wrap64 (200 + t127),wrap64 (300 + t130),400] : List Int)) := ⟨_,rfl⟩
 replace H : ((spec_l1Int.f s0_0 t131 t132 y133).bind fun bt136 => (some (bt136.1,bt136.2.1,bt136.2.2))) = some (r1,r2,r3) := by first | (rw [hy133]; with_reducible exact H) | (have H2_ := (Option.bind_some _ _).symm.trans H; rw [hy133]; with_reducible exact H2_) | (have H2_ := (Option.bind_some _ _).symm.trans H; with_reducible exact H2_) | with_reducible exact H | (rw [hy133]; exact H) | exact H
 have Ny133 := QS hy133
 clear hy133
 replace H := QT.mp H
 obtain ⟨⟨t136,t137,t138⟩,A50,H⟩ := H
 replace H : (some (t136,t137,t138)) = some (r1,r2,r3) := H
 have A5 := QS A50
 clear A50
 simp only [Option.some.injEq,Prod.mk.injEq] at H
 obtain ⟨rfl,rfl,rfl⟩ := H
 go_enter Tryd.func95,Tryd.ntmps95
 go_wp2_with (first | ((with_reducible refine QL (f := 38) rfl ?_); refine goesL_ (some 5) rfl rfl Tryd.func38 (by kernel_rfl) rfl #[.pointer (some ⟨g,0,none⟩),.int .i64 4] rfl (by (try simp only [List.map_toArray,List.map_cons,List.map_nil]); first | done | rfl | (simp only [List.length_drop,List.length_take]; rfl)) ?_; (with_reducible refine (spec_l1Below.calls g s0_0 s0_1 s0_2 4 t124 t125 t126 w0 _ ?side1 ?side2 A2.out).mono ?_); (case side1 => repeat (first | (with_reducible first | exact HI0.out | apply IsS80.alloc | apply IsS80.drewN | apply IsS80.drew | apply IsS80.set_1 | apply IsS80.set_2) | exact HI0.out)); (case side2 => repeat (first | (with_reducible first | exact HB.out | apply QC | apply QB | apply QD | refine QG ?_ (IsS80.ge HI0.out)) | exact HB.out)); rintro e w6 ⟨rfl,hi,hb,hk⟩; refine ⟨_,rfl,?_⟩; have n0_ := QS (KeepBut.trans (by repeat (first | (with_reducible first | exact HK.out | apply KeepBut.set_ | apply QE | apply QH | apply QF) | exact HK.out)) hk (.inl rfl)); have n1_ := QS (hb); have n2_ := QS (hi); clear HK; clear HB; clear HI0; revert n0_ n1_ n2_; intro HK HB HI0; (try clear hb); (try clear hk); (try clear hi)) | ((with_reducible refine QL (f := 38) rfl ?_); refine goesL_ (some 8) rfl rfl Tryd.func38 (by kernel_rfl) rfl #[.pointer (some ⟨g,0,none⟩),.int .i64 13] rfl (by (try simp only [List.map_toArray,List.map_cons,List.map_nil]); first | done | rfl | (simp only [List.length_drop,List.length_take]; rfl)) ?_; (with_reducible refine (spec_l1Below.calls g s0_0 t125 t126 13 t127 t128 t129 w0 _ ?side1 ?side2 A3.out).mono ?_); (case side1 => repeat (first | (with_reducible first | exact HI0.out | apply IsS80.alloc | apply IsS80.drewN | apply IsS80.drew | apply IsS80.set_1 | apply IsS80.set_2) | exact HI0.out)); (case side2 => repeat (first | (with_reducible first | exact HB.out | apply QC | apply QB | apply QD | refine QG ?_ (IsS80.ge HI0.out)) | exact HB.out)); rintro e w7 ⟨rfl,hi,hb,hk⟩; refine ⟨_,rfl,?_⟩; have n0_ := QS (KeepBut.trans (by repeat (first | (with_reducible first | exact HK.out | apply KeepBut.set_ | apply QE | apply QH | apply QF) | exact HK.out)) hk (.inl rfl)); have n1_ := QS (hb); have n2_ := QS (hi); clear HK; clear HB; clear HI0; revert n0_ n1_ n2_; intro HK HB HI0; (try clear hb); (try clear hk); (try clear hi)) | ((with_reducible refine QL (f := 38) rfl ?_); refine goesL_ (some 11) rfl rfl Tryd.func38 (by kernel_rfl) rfl #[.pointer (some ⟨g,0,none⟩),.int .i64 13] rfl (by (try simp only [List.map_toArray,List.map_cons,List.map_nil]); first | done | rfl | (simp only [List.length_drop,List.length_take]; rfl)) ?_; (with_reducible refine (spec_l1Below.calls g s0_0 t128 t129 13 t130 t131 t132 w0 _ ?side1 ?side2 A4.out).mono ?_); (case side1 => repeat (first | (with_reducible first | exact HI0.out | apply IsS80.alloc | apply IsS80.drewN | apply IsS80.drew | apply IsS80.set_1 | apply IsS80.set_2) | exact HI0.out)); (case side2 => repeat (first | (with_reducible first | exact HB.out | apply QC | apply QB | apply QD | refine QG ?_ (IsS80.ge HI0.out)) | exact HB.out)); rintro e w8 ⟨rfl,hi,hb,hk⟩; refine ⟨_,rfl,?_⟩; have n0_ := QS (KeepBut.trans (by repeat (first | (with_reducible first | exact HK.out | apply KeepBut.set_ | apply QE | apply QH | apply QF) | exact HK.out)) hk (.inl rfl)); have n1_ := QS (hb); have n2_ := QS (hi); clear HK; clear HB; clear HI0; revert n0_ n1_ n2_; intro HK HB HI0; (try clear hb); (try clear hk); (try clear hi)) | ((with_reducible refine gate_dst (N := 13) rfl ?_); refine Kd.R_lit (Kd.int .i64) _ 3 ?hg (N := 13) ?hd (xs := ([wrap64 (100 + t124),wrap64 (200 + t127),wrap64 (300 + t130),400] : List Int)) (inner := [.int .i64 (wrap64 (100 + t124)),.int .i64 (wrap64 (200 + t127)),.int .i64 (wrap64 (300 + t130)),.int .i64 400]) (ok := fun _ => True) (okp := fun _ => True) ?hr ?hp (fun _ hk => hk) trivial (Below.refl _ _) (Nat.le_refl _) (by simp) ?_; (case hd => rfl); (case hg => rfl); (case hr => first | (go_simp; done) | (go_simp; rfl)); (case hp => exact (Reps.one (show Kd.M (Kd.int .i64) _ _ _ (wrap64 (100 + t124)) [.int .i64 (wrap64 (100 + t124))] from rfl) (Reps.one (show Kd.M (Kd.int .i64) _ _ _ (wrap64 (200 + t127)) [.int .i64 (wrap64 (200 + t127))] from rfl) (Reps.one (show Kd.M (Kd.int .i64) _ _ _ (wrap64 (300 + t130)) [.int .i64 (wrap64 (300 + t130))] from rfl) (Reps.one (show Kd.M (Kd.int .i64) _ _ _ 400 [.int .i64 400] from rfl) (Reps.none _ _)))))); intro v134 w9 ho10 hb hg_ hnew_; clear hg_ hnew_; (first | rw [← Ny133.out] at ho10 | (simp only [Int.reduceToNat] at ho10; rw [← Ny133.out] at ho10)); have n0_ := QS (Kd.R_lower ho10 (keep_size (w := w) (g := g) (row := none) (by repeat (first | (with_reducible first | exact HK.out | apply KeepBut.set_ | apply QE | apply QH | apply QF) | exact HK.out)))); have n1_ := QS (IsS80.below (by repeat (first | (with_reducible first | exact HI0.out | apply IsS80.alloc | apply IsS80.drewN | apply IsS80.drew | apply IsS80.set_1 | apply IsS80.set_2) | exact HI0.out)) hb); have n2_ := QS (KeepBut.trans (by repeat (first | (with_reducible first | exact HK.out | apply KeepBut.set_ | apply QE | apply QH | apply QF) | exact HK.out)) (KeepBut.of_below hb g none) (.inl rfl)); have n3_ := QS (below_step (by repeat (first | (with_reducible first | exact HB.out | apply QC | apply QB | apply QD | refine QG ?_ (IsS80.ge HI0.out)) | exact HB.out)) hb); clear HI0; clear HK; clear HB; revert n0_ n1_ n2_ n3_; intro HO135 HI0 HK HB; clear hb ho10; obtain ⟨Ao11,co11,eo11⟩ := Kd.R_slice HO135.out; subst eo11) | ((with_reducible refine QL (f := 62) rfl ?_); refine goesL_ (some 14) rfl rfl Tryd.func62 (by kernel_rfl) rfl #[.pointer (some ⟨g,0,none⟩),.slice Ao11 y133.length co11] rfl (by (try simp only [List.map_toArray,List.map_cons,List.map_nil]); first | done | rfl | (simp only [List.length_drop,List.length_take]; rfl)) ?_; (with_reducible refine (spec_l1Int.calls g s0_0 t131 t132 _ _ y133 t136 t137 t138 w0 _ ?side1 ?side2 ?side3 ?side4 ?side5 A5.out).mono ?_); (case side1 => repeat (first | (with_reducible first | exact HI0.out | apply IsS80.alloc | apply IsS80.drewN | apply IsS80.drew | apply IsS80.set_1 | apply IsS80.set_2) | exact HI0.out)); (case side2 => repeat (first | (with_reducible first | exact HB.out | apply QC | apply QB | apply QD | refine QG ?_ (IsS80.ge HI0.out)) | exact HB.out)); (case side3 => repeat (first | exact (Kd.R_reads' HO135.out).2.2 | (with_reducible refine Kd.C_alloc ?_ _) | (with_reducible refine Kd.C_drewN ?_ _) | (with_reducible refine Kd.C_drew ?_))); (case side4 => exact (Kd.R_reads' HO135.out).2.1); (case side5 => exact far_slice (IsS80.own_ne HI0.out HO135.out (by decide))); rintro e w12 ⟨rfl,hi,hb,hk⟩; refine ⟨_,rfl,?_⟩; have n0_ := QS (QR (Kd.R_keep (IsS80.apart (show IsS80 w0 _ g s0_0 t131 t132 from by repeat (first | (with_reducible first | exact HI0.out | apply IsS80.alloc | apply IsS80.drewN | apply IsS80.drew | apply IsS80.set_1 | apply IsS80.set_2) | exact HI0.out)) (by (with_reducible repeat (first | apply QM | apply QN | apply QO)); exact HO135.out) (by decide)) hk (fun _ h => h.2)) (fun _ h => h.1)); have n1_ := QS (KeepBut.trans (by repeat (first | (with_reducible first | exact HK.out | apply KeepBut.set_ | apply QE | apply QH | apply QF) | exact HK.out)) hk (.inl rfl)); have n2_ := QS (hb); have n3_ := QS (hi); clear HO135; clear HK; clear HB; clear HI0; revert n0_ n1_ n2_ n3_; intro HO135 HK HB HI0; (try clear hb); (try clear hk); (try clear hi)))
 go_ret
 exact ⟨by first | rfl | (simp [errW_none,errW_some] <;> rfl) | (simp [*,errW_none,errW_some] <;> rfl),by repeat (first | (with_reducible first | exact HI0.out | apply IsS80.alloc | apply IsS80.drewN | apply IsS80.drew | apply IsS80.set_1 | apply IsS80.set_2) | exact HI0.out),by repeat (first | (with_reducible first | exact HB.out | apply QC | apply QB | apply QD | refine QG ?_ (IsS80.ge HI0.out)) | exact HB.out),by repeat (first | (with_reducible first | exact HK.out | apply KeepBut.set_ | apply QE | apply QH | apply QF) | exact HK.out)⟩

/-! ### spec_l8Draw: function 81 -/
mutual
def spec_l8Draw.j0 : Nat → Int → Bool → List Int → Int → Int → Option (List Int × Int × Int)
 | 0,_,_,_,_,_ => none
 | k + 1,x1,x11,x1000,x1001,x1002 => if x11 = true then ((spec_l8Leaves.f x1000 x1001 x1002).bind fun bt142 => (some ((([bt142.1] : List Int)),bt142.2.1,bt142.2.2))) else ((spec_l1Once.f x1000 x1001 x1002 4).bind fun bt148 => (if bt148.1 = true then ((spec_l8Draw.f k x1000 bt148.2.1 bt148.2.2 (wrap64 (x1 - 1))).bind fun bt151 => (if bt151.1.length < 17592186044416 then (some ((bt151.1 ++ [(-1)]),bt151.2.1,bt151.2.2)) else (none))) else ((spec_l8Draw.f k x1000 bt148.2.1 bt148.2.2 (wrap64 (x1 - 1))).bind fun bt159 => ((spec_l8Draw.f k x1000 bt159.2.1 bt159.2.2 (wrap64 (x1 - 1))).bind fun bt164 => (if bt159.1.length + bt164.1.length < 17592186044416 then ((some (bt159.1 ++ bt164.1 : List Int)).bind fun y169 => ((spec_l1Below.f x1000 bt164.2.1 bt164.2.2 2).bind fun bt172 => (if y169.length < 17592186044416 then (some ((y169 ++ [wrap64 ((-2) - bt172.1)]),bt172.2.1,bt172.2.2)) else (none)))) else (none))))))
def spec_l8Draw.f : Nat → List Int → Int → Int → Int → Option (List Int × Int × Int)
 | 0,_,_,_,_ => none
 | k + 1,s0_0,s0_1,s0_2,a1 => if a1 = 0 then (spec_l8Draw.j0 k a1 true s0_0 s0_1 s0_2) else ((spec_l1Once.f s0_0 s0_1 s0_2 4).bind fun bt139 => (spec_l8Draw.j0 k a1 bt139.1 s0_0 bt139.2.1 bt139.2.2))
end
theorem spec_l8Draw.mono_l : ∀ k, (∀ y0 y1 y2 y3, LeO (spec_l8Draw.f k y0 y1 y2 y3) (spec_l8Draw.f (k + 1) y0 y1 y2 y3)) ∧ (∀ y0 y1 y2 y3 y4, LeO (spec_l8Draw.j0 k y0 y1 y2 y3 y4) (spec_l8Draw.j0 (k + 1) y0 y1 y2 y3 y4))
 | 0 => ⟨fun _ _ _ _ r h => by simp [spec_l8Draw.f] at h,fun _ _ _ _ _ r h => by simp [spec_l8Draw.j0] at h⟩
 | k + 1 => by
  obtain ⟨ih0,ih1⟩ := spec_l8Draw.mono_l k
  refine ⟨?_,?_⟩
  ·intro y0 y1 y2 y3
   unfold spec_l8Draw.f
   repeat' first
   | (with_reducible exact ih0 _ _ _ _)
   | (with_reducible exact ih1 _ _ _ _ _)
   | (with_reducible exact LeO.refl _)
   | (with_reducible exact LeO.none _)
   | (with_reducible refine LeO.ite ?_ ?_)
   | (with_reducible refine LeO.bind ?_ (fun _ => ?_))
   | exact ih0 _ _ _ _
   | exact ih1 _ _ _ _ _
   | exact LeO.none _
   | refine LeO.ite ?_ ?_
   | refine LeO.bind ?_ (fun _ => ?_)
  ·intro y0 y1 y2 y3 y4
   unfold spec_l8Draw.j0
   repeat' first
   | (with_reducible exact ih0 _ _ _ _)
   | (with_reducible exact ih1 _ _ _ _ _)
   | (with_reducible exact LeO.refl _)
   | (with_reducible exact LeO.none _)
   | (with_reducible refine LeO.ite ?_ ?_)
   | (with_reducible refine LeO.bind ?_ (fun _ => ?_))
   | exact ih0 _ _ _ _
   | exact ih1 _ _ _ _ _
   | exact LeO.none _
   | refine LeO.ite ?_ ?_
   | refine LeO.bind ?_ (fun _ => ?_)
theorem spec_l8Draw.mono : ∀ a0 a1 a2 a3 k, LeO (spec_l8Draw.f k a0 a1 a2 a3) (spec_l8Draw.f (k + 1) a0 a1 a2 a3) := by
 intro a0 a1 a2 a3 k
 obtain ⟨ih0,ih1⟩ := spec_l8Draw.mono_l k
 exact ih0 a0 a1 a2 a3
set_option maxHeartbeats 8000000 in
set_option maxRecDepth 100000 in
theorem spec_l8Draw.calls (k : Nat) : ∀ (g : Nat) (s0_0 : List Int) (s0_1 : Int) (s0_2 : Int) (a1 : Int) (r1 : List Int) (r2 : Int) (r3 : Int) (w0 w : World) (hI : IsS80 w0 w g s0_0 s0_1 s0_2) (hB : Below w0.heap.size w0 w) (h : spec_l8Draw.f k s0_0 s0_1 s0_2 a1 = some (r1, r2, r3)),
  Calls Tryd.prog 81 #[.pointer (some ⟨g,0,none⟩),.int .i64 a1] w fun e w' => ∃ v0_ : Value,e = .returned (v0_) ∧ Kd.R (Kd.int .i64) 3 w' w.heap.size (fun _ => True) v0_ r1 ∧ IsS80 w0 w' g s0_0 r2 r3 ∧ Below w0.heap.size w0 w' ∧ KeepBut w w' g none := by
 induction k using Nat.strongRecOn with
 | _ k ih =>
 intro g s0_0 s0_1 s0_2 a1 r1 r2 r3 w0 w hI hB h
 cases k with
 | zero => exact absurd h (by simp [spec_l8Draw.f])
 | succ k =>
 simp only [spec_l8Draw.f] at h
 have HI0 := QS hI
 have HK := QS (KeepBut.refl w g none)
 have HL := QS hB.size
 clear hI
 have HW0 := QS hB.size
 have HB := QS hB
 clear hB
 have H : (if a1 = 0 then (spec_l8Draw.j0 k a1 true s0_0 s0_1 s0_2) else ((spec_l1Once.f s0_0 s0_1 s0_2 4).bind fun bt139 => (spec_l8Draw.j0 k a1 bt139.1 s0_0 bt139.2.1 bt139.2.2))) = some (r1,r2,r3) := h
 clear h
 have HC3 := QS H
 clear H
 go_enter Tryd.func81,Tryd.ntmps81
 go_upto_region 1 with (fail)
 go_cut [11] (fun v11 wc => ∃ (kq : Nat) (x11_2 : Bool) (x1001_2 : Int) (x1002_2 : Int),v11 = .bool x11_2 ∧ Aside0 (spec_l8Draw.j0 kq a1 x11_2 s0_0 x1001_2 x1002_2 = some (r1,r2,r3)) ∧ Aside0 (kq ≤ k) ∧ Aside0 (IsS80 w0 wc g s0_0 x1001_2 x1002_2) ∧ Aside0 (KeepBut w wc g none) ∧ Aside0 (Below w0.heap.size w0 wc))
 case first =>
  have H := HC3.out
  clear HC3
  by_cases c4 : a1 = 0
  ·rw [if_pos c4] at H
   have c4b0 : (a1 == 0) = true := beq_iff_eq.mpr c4
   have c4b1 : (a1 != 0) = false := bne_eq_false_iff_eq.mpr c4
   clear c4
   (first | rw [c4b0] | (simp only [i64_w,i32_w]; rw [c4b0]) | skip)
   have H' := QS H
   clear H
   go_wp2
   go_meet
   case rel => exact ⟨_,(true),(s0_1),(s0_2),(by first | rfl | (simp; done) | (simp [*]; done)),H',⟨by first | omega | exact Nat.le_refl _⟩,⟨by repeat (first | (with_reducible first | exact HI0.out | apply IsS80.alloc | apply IsS80.drewN | apply IsS80.drew | apply IsS80.set_1 | apply IsS80.set_2) | exact HI0.out)⟩,⟨by repeat (first | (with_reducible first | exact HK.out | apply KeepBut.set_ | apply QE | apply QH | apply QF) | exact HK.out)⟩,⟨by repeat (first | (with_reducible first | exact HB.out | apply QC | apply QB | apply QD | refine QG ?_ (IsS80.ge HI0.out)) | exact HB.out)⟩⟩
  ·rw [if_neg c4] at H
   have c4b0 : (a1 == 0) = false := beq_eq_false_iff_ne.mpr c4
   have c4b1 : (a1 != 0) = true := bne_iff_ne.mpr c4
   (first | rw [c4b0] | (simp only [i64_w,i32_w]; rw [c4b0]) | skip)
   replace H := QT.mp H
   obtain ⟨⟨t139,t140,t141⟩,A50,H⟩ := H
   replace H : (spec_l8Draw.j0 k a1 t139 s0_0 t140 t141) = some (r1,r2,r3) := H
   have A5 := QS A50
   clear A50
   have H' := QS H
   clear H
   go_wp2_with (first | (go_at_call 80; (with_reducible refine (spec_l1Once.calls g s0_0 s0_1 s0_2 4 t139 t140 t141 w0 _ ?side1 ?side2 A5.out).mono ?_); (case side1 => repeat (first | (with_reducible first | exact HI0.out | apply IsS80.alloc | apply IsS80.drewN | apply IsS80.drew | apply IsS80.set_1 | apply IsS80.set_2) | exact HI0.out)); (case side2 => repeat (first | (with_reducible first | exact HB.out | apply QC | apply QB | apply QD | refine QG ?_ (IsS80.ge HI0.out)) | exact HB.out)); rintro e w6 ⟨rfl,hi,hb,hk⟩; have n0_ := QS (KeepBut.trans (by repeat (first | (with_reducible first | exact HK.out | apply KeepBut.set_ | apply QE | apply QH | apply QF) | exact HK.out)) hk (.inl rfl)); have n1_ := QS (hb); have n2_ := QS (hi); clear HK; clear HB; clear HI0; revert n0_ n1_ n2_; intro HK HB HI0; (try clear hb); (try clear hk); (try clear hi)))
   go_meet
   case rel => exact ⟨_,(t139),(t140),(t141),(by first | rfl | (simp; done) | (simp [*]; done)),H',⟨by first | omega | exact Nat.le_refl _⟩,⟨by repeat (first | (with_reducible first | exact HI0.out | apply IsS80.alloc | apply IsS80.drewN | apply IsS80.drew | apply IsS80.set_1 | apply IsS80.set_2) | exact HI0.out)⟩,⟨by repeat (first | (with_reducible first | exact HK.out | apply KeepBut.set_ | apply QE | apply QH | apply QF) | exact HK.out)⟩,⟨by repeat (first | (with_reducible first | exact HB.out | apply QC | apply QB | apply QD | refine QG ?_ (IsS80.ge HI0.out)) | exact HB.out)⟩⟩
 case rest =>
  clear HC3
  try clear c4
  try clear c4b0
  try clear c4b1
  obtain ⟨kq,x11_2,x1001_2,x1002_2,rfl,HA,HJ2,HI0,HK,HB⟩ := hcut
  cases kq with
  | zero => exact absurd HA.out (by simp [spec_l8Draw.j0])
  | succ kj2 =>
   have H := HA.out
   clear HA
   simp only [spec_l8Draw.j0] at H
   by_cases c7 : x11_2 = true
   ·subst c7
    have H1 : ((spec_l8Leaves.f s0_0 x1001_2 x1002_2).bind fun bt142 => (some ((([bt142.1] : List Int)),bt142.2.1,bt142.2.2))) = some (r1,r2,r3) := by rw [if_pos rfl] at H; exact H
    clear H
    have H := H1
    clear H1
    replace H := QT.mp H
    obtain ⟨⟨t142,t143,t144⟩,A80,H⟩ := H
    replace H : (some ((([t142] : List Int)),t143,t144)) = some (r1,r2,r3) := H
    have A8 := QS A80
    clear A80
    obtain ⟨y145,hy145⟩ : ∃ y_ : List Int,y_ = (([t142] : List Int)) := ⟨_,rfl⟩
    replace H : (some (y145,t143,t144)) = some (r1,r2,r3) := by first | (rw [hy145]; with_reducible exact H) | (have H2_ := (Option.bind_some _ _).symm.trans H; rw [hy145]; with_reducible exact H2_) | (have H2_ := (Option.bind_some _ _).symm.trans H; with_reducible exact H2_) | with_reducible exact H | (rw [hy145]; exact H) | exact H
    have Ny145 := QS hy145
    clear hy145
    simp only [Option.some.injEq,Prod.mk.injEq] at H
    obtain ⟨rfl,rfl,rfl⟩ := H
    go_wp2_with (first | ((with_reducible refine QL (f := 95) rfl ?_); refine goesL_ (some 13) rfl rfl Tryd.func95 (by kernel_rfl) rfl #[.pointer (some ⟨g,0,none⟩)] rfl (by (try simp only [List.map_toArray,List.map_cons,List.map_nil]); first | done | rfl | (simp only [List.length_drop,List.length_take]; rfl)) ?_; (with_reducible refine (spec_l8Leaves.calls g s0_0 x1001_2 x1002_2 t142 t143 t144 w0 _ ?side1 ?side2 A8.out).mono ?_); (case side1 => repeat (first | (with_reducible first | exact HI0.out | apply IsS80.alloc | apply IsS80.drewN | apply IsS80.drew | apply IsS80.set_1 | apply IsS80.set_2) | exact HI0.out)); (case side2 => repeat (first | (with_reducible first | exact HB.out | apply QC | apply QB | apply QD | refine QG ?_ (IsS80.ge HI0.out)) | exact HB.out)); rintro e w9 ⟨rfl,hi,hb,hk⟩; refine ⟨_,rfl,?_⟩; have n0_ := QS (KeepBut.trans (by repeat (first | (with_reducible first | exact HK.out | apply KeepBut.set_ | apply QE | apply QH | apply QF) | exact HK.out)) hk (.inl rfl)); have n1_ := QS (hb); have n2_ := QS (hi); clear HK; clear HB; clear HI0; revert n0_ n1_ n2_; intro HK HB HI0; (try clear hb); (try clear hk); (try clear hi)) | ((with_reducible refine gate_dst (N := 14) rfl ?_); refine Kd.R_lit (Kd.int .i64) _ 3 ?hg (N := 14) ?hd (xs := ([t142] : List Int)) (inner := [.int .i64 t142]) (ok := fun _ => True) (okp := fun _ => True) ?hr ?hp (fun _ hk => hk) trivial (Below.refl _ _) (Nat.le_refl _) (by simp) ?_; (case hd => rfl); (case hg => rfl); (case hr => first | (go_simp; done) | (go_simp; rfl)); (case hp => exact (Reps.one (show Kd.M (Kd.int .i64) _ _ _ t142 [.int .i64 t142] from rfl) (Reps.none _ _))); intro v146 w10 ho11 hb hg_ hnew_; clear hg_ hnew_; (first | rw [← Ny145.out] at ho11 | (simp only [Int.reduceToNat] at ho11; rw [← Ny145.out] at ho11)); have n0_ := QS (Kd.R_lower ho11 (keep_size (w := w) (g := g) (row := none) (by repeat (first | (with_reducible first | exact HK.out | apply KeepBut.set_ | apply QE | apply QH | apply QF) | exact HK.out)))); have n1_ := QS (IsS80.below (by repeat (first | (with_reducible first | exact HI0.out | apply IsS80.alloc | apply IsS80.drewN | apply IsS80.drew | apply IsS80.set_1 | apply IsS80.set_2) | exact HI0.out)) hb); have n2_ := QS (KeepBut.trans (by repeat (first | (with_reducible first | exact HK.out | apply KeepBut.set_ | apply QE | apply QH | apply QF) | exact HK.out)) (KeepBut.of_below hb g none) (.inl rfl)); have n3_ := QS (below_step (by repeat (first | (with_reducible first | exact HB.out | apply QC | apply QB | apply QD | refine QG ?_ (IsS80.ge HI0.out)) | exact HB.out)) hb); clear HI0; clear HK; clear HB; revert n0_ n1_ n2_ n3_; intro HO147 HI0 HK HB; clear hb ho11))
    go_ret
    exact ⟨_,by first | rfl | (simp [errW_none,errW_some] <;> rfl) | (simp [*,errW_none,errW_some] <;> rfl),by (with_reducible repeat (first | apply QM | apply QN | apply QO)); exact HO147.out,by repeat (first | (with_reducible first | exact HI0.out | apply IsS80.alloc | apply IsS80.drewN | apply IsS80.drew | apply IsS80.set_1 | apply IsS80.set_2) | exact HI0.out),by repeat (first | (with_reducible first | exact HB.out | apply QC | apply QB | apply QD | refine QG ?_ (IsS80.ge HI0.out)) | exact HB.out),by repeat (first | (with_reducible first | exact HK.out | apply KeepBut.set_ | apply QE | apply QH | apply QF) | exact HK.out)⟩
   ·replace c7 := Bool.eq_false_iff.mpr c7
    subst c7
    have H1 : ((spec_l1Once.f s0_0 x1001_2 x1002_2 4).bind fun bt148 => (if bt148.1 = true then ((spec_l8Draw.f kj2 s0_0 bt148.2.1 bt148.2.2 (wrap64 (a1 - 1))).bind fun bt151 => (if bt151.1.length < 17592186044416 then (some ((bt151.1 ++ [(-1)]),bt151.2.1,bt151.2.2)) else (none))) else ((spec_l8Draw.f kj2 s0_0 bt148.2.1 bt148.2.2 (wrap64 (a1 - 1))).bind fun bt159 => ((spec_l8Draw.f kj2 s0_0 bt159.2.1 bt159.2.2 (wrap64 (a1 - 1))).bind fun bt164 => (if bt159.1.length + bt164.1.length < 17592186044416 then ((some (bt159.1 ++ bt164.1 : List Int)).bind fun y169 => ((spec_l1Below.f s0_0 bt164.2.1 bt164.2.2 2).bind fun bt172 => (if y169.length < 17592186044416 then (some ((y169 ++ [wrap64 ((-2) - bt172.1)]),bt172.2.1,bt172.2.2)) else (none)))) else (none)))))) = some (r1,r2,r3) := by rw [if_neg (show ¬ (false = true) by decide)] at H; exact H
    clear H
    have H := H1
    clear H1
    replace H := QT.mp H
    obtain ⟨⟨t148,t149,t150⟩,A120,H⟩ := H
    replace H : (if t148 = true then ((spec_l8Draw.f kj2 s0_0 t149 t150 (wrap64 (a1 - 1))).bind fun bt151 => (if bt151.1.length < 17592186044416 then (some ((bt151.1 ++ [(-1)]),bt151.2.1,bt151.2.2)) else (none))) else ((spec_l8Draw.f kj2 s0_0 t149 t150 (wrap64 (a1 - 1))).bind fun bt159 => ((spec_l8Draw.f kj2 s0_0 bt159.2.1 bt159.2.2 (wrap64 (a1 - 1))).bind fun bt164 => (if bt159.1.length + bt164.1.length < 17592186044416 then ((some (bt159.1 ++ bt164.1 : List Int)).bind fun y169 => ((spec_l1Below.f s0_0 bt164.2.1 bt164.2.2 2).bind fun bt172 => (if y169.length < 17592186044416 then (some ((y169 ++ [wrap64 ((-2) - bt172.1)]),bt172.2.1,bt172.2.2)) else (none)))) else (none))))) = some (r1,r2,r3) := H
    have A12 := QS A120
    clear A120
    by_cases c13 : t148 = true
    ·subst c13
     have H1 : ((spec_l8Draw.f kj2 s0_0 t149 t150 (wrap64 (a1 - 1))).bind fun bt151 => (if bt151.1.length < 17592186044416 then (some ((bt151.1 ++ [(-1)]),bt151.2.1,bt151.2.2)) else (none))) = some (r1,r2,r3) := by rw [if_pos rfl] at H; exact H
     clear H
     have H := H1
     clear H1
     replace H := QT.mp H
     obtain ⟨⟨t151,t154,t155⟩,A140,H⟩ := H
     replace H : (if t151.length < 17592186044416 then (some ((t151 ++ [(-1)]),t154,t155)) else (none)) = some (r1,r2,r3) := H
     have A14 := QS A140
     clear A140
     by_cases c15 : t151.length < 17592186044416
     ·rw [if_pos c15] at H
      have LMc15 := QS c15
      clear c15
      obtain ⟨y156,hy156⟩ : ∃ y_ : List Int,y_ = (t151 ++ [(-1)]) := ⟨_,rfl⟩
      replace H : (some (y156,t154,t155)) = some (r1,r2,r3) := by first | (rw [hy156]; with_reducible exact H) | (have H2_ := (Option.bind_some _ _).symm.trans H; rw [hy156]; with_reducible exact H2_) | (have H2_ := (Option.bind_some _ _).symm.trans H; with_reducible exact H2_) | with_reducible exact H | (rw [hy156]; exact H) | exact H
      have Ny156 := QS hy156
      clear hy156
      simp only [Option.some.injEq,Prod.mk.injEq] at H
      obtain ⟨rfl,rfl,rfl⟩ := H
      go_wp2_with (first | ((with_reducible refine QL (f := 80) rfl ?_); refine goesL_ (some 16) rfl rfl Tryd.func80 (by kernel_rfl) rfl #[.pointer (some ⟨g,0,none⟩),.int .i64 4] rfl (by (try simp only [List.map_toArray,List.map_cons,List.map_nil]); first | done | rfl | (simp only [List.length_drop,List.length_take]; rfl)) ?_; (with_reducible refine (spec_l1Once.calls g s0_0 x1001_2 x1002_2 4 true t149 t150 w0 _ ?side1 ?side2 A12.out).mono ?_); (case side1 => repeat (first | (with_reducible first | exact HI0.out | apply IsS80.alloc | apply IsS80.drewN | apply IsS80.drew | apply IsS80.set_1 | apply IsS80.set_2) | exact HI0.out)); (case side2 => repeat (first | (with_reducible first | exact HB.out | apply QC | apply QB | apply QD | refine QG ?_ (IsS80.ge HI0.out)) | exact HB.out)); rintro e w16 ⟨rfl,hi,hb,hk⟩; refine ⟨_,rfl,?_⟩; have n0_ := QS (KeepBut.trans (by repeat (first | (with_reducible first | exact HK.out | apply KeepBut.set_ | apply QE | apply QH | apply QF) | exact HK.out)) hk (.inl rfl)); have n1_ := QS (hb); have n2_ := QS (hi); clear HK; clear HB; clear HI0; revert n0_ n1_ n2_; intro HK HB HI0; (try clear hb); (try clear hk); (try clear hi)) | ((with_reducible refine QL (f := 81) rfl ?_); refine goesL_ (some 20) rfl rfl Tryd.func81 (by kernel_rfl) rfl #[.pointer (some ⟨g,0,none⟩),.int .i64 (wrap64 (a1 - 1))] rfl (by (try simp only [List.map_toArray,List.map_cons,List.map_nil]); first | done | rfl | (simp only [List.length_drop,List.length_take]; rfl)) ?_; (with_reducible refine (ih kj2 (by have := HJ2.out; omega) g s0_0 t149 t150 (wrap64 (a1 - 1)) t151 t154 t155 w0 _ ?side1 ?side2 A14.out).mono ?_); (case side1 => repeat (first | (with_reducible first | exact HI0.out | apply IsS80.alloc | apply IsS80.drewN | apply IsS80.drew | apply IsS80.set_1 | apply IsS80.set_2) | exact HI0.out)); (case side2 => repeat (first | (with_reducible first | exact HB.out | apply QC | apply QB | apply QD | refine QG ?_ (IsS80.ge HI0.out)) | exact HB.out)); rintro e w17 ⟨v152,rfl,ho0,hi,hb,hk⟩; refine ⟨_,rfl,?_⟩; have n0_ := QS (Kd.R_lower ho0 (keep_size (w := w) (g := g) (row := none) (by repeat (first | (with_reducible first | exact HK.out | apply KeepBut.set_ | apply QE | apply QH | apply QF) | exact HK.out)))); have n1_ := QS (KeepBut.trans (by repeat (first | (with_reducible first | exact HK.out | apply KeepBut.set_ | apply QE | apply QH | apply QF) | exact HK.out)) hk (.inl rfl)); have n2_ := QS (hb); have n3_ := QS (hi); clear HK; clear HB; clear HI0; revert n0_ n1_ n2_ n3_; intro HO153 HK HB HI0; (try clear hb); (try clear hk); (try clear hi); (try clear ho0)) | ((with_reducible refine gate_builtin (b := .append) (xs := #[.tmp 20,.tmp 21]) rfl ?_); at_builtin; refine Kd.R_append (Kd.int .i64) w.heap.size rfl (.tmp 20) (.tmp 21) 24 3 (.int .i64 0) 8 rfl Tryd.underlying24 info3 rfl (by decide) (by omega) v152 t151 (-1) [.int .i64 (-1)] (fun _ => True) (fun _ => False) rfl rfl ?aP (fun _ hk => hk.elim) ?aF ?aO (Below.refl _ _) ?aS ?aL ?_; (case aP => exact rfl); (case aF => exact (fun _ _ => trivial)); (case aO => exact (by (with_reducible repeat (first | apply QM | apply QN | apply QO)); exact HO153.out)); (case aS => exact (keep_size (w := w) (g := g) (row := none) (by repeat (first | (with_reducible first | exact HK.out | apply KeepBut.set_ | apply QE | apply QH | apply QF) | exact HK.out)))); (case aL => have := LMc15.out; omega); intro v157 w18 ho hb hg hat; rw [← Ny156.out] at ho; have n0_ := QS (IsS80.grown (by repeat (first | (with_reducible first | exact HI0.out | apply IsS80.alloc | apply IsS80.drewN | apply IsS80.drew | apply IsS80.set_1 | apply IsS80.set_2) | exact HI0.out)) hg (IsS80.own_ne HI0.out HO153.out (by decide))); have n1_ := QS (below_weaken (by repeat (first | (with_reducible first | exact HB.out | apply QC | apply QB | apply QD | refine QG ?_ (IsS80.ge HI0.out)) | exact HB.out)) HL.out hb); have n2_ := QS (KeepBut.trans (by repeat (first | (with_reducible first | exact HK.out | apply KeepBut.set_ | apply QE | apply QH | apply QF) | exact HK.out)) (KeepBut.of_grown hg g) (Kd.R_base2 HO153.out)); have n3_ := QS (ho); clear HI0; clear HB; clear HK; clear HO153; revert n0_ n1_ n2_ n3_; intro HI0 HB HK HO158; clear ho hb hg hat))
      go_ret
      exact ⟨_,by first | rfl | (simp [errW_none,errW_some] <;> rfl) | (simp [*,errW_none,errW_some] <;> rfl),by (with_reducible repeat (first | apply QM | apply QN | apply QO)); exact HO158.out,by repeat (first | (with_reducible first | exact HI0.out | apply IsS80.alloc | apply IsS80.drewN | apply IsS80.drew | apply IsS80.set_1 | apply IsS80.set_2) | exact HI0.out),by repeat (first | (with_reducible first | exact HB.out | apply QC | apply QB | apply QD | refine QG ?_ (IsS80.ge HI0.out)) | exact HB.out),by repeat (first | (with_reducible first | exact HK.out | apply KeepBut.set_ | apply QE | apply QH | apply QF) | exact HK.out)⟩
     ·rw [if_neg c15] at H
      exact absurd H (by simp)
    ·replace c13 := Bool.eq_false_iff.mpr c13
     subst c13
     have H1 : ((spec_l8Draw.f kj2 s0_0 t149 t150 (wrap64 (a1 - 1))).bind fun bt159 => ((spec_l8Draw.f kj2 s0_0 bt159.2.1 bt159.2.2 (wrap64 (a1 - 1))).bind fun bt164 => (if bt159.1.length + bt164.1.length < 17592186044416 then ((some (bt159.1 ++ bt164.1 : List Int)).bind fun y169 => ((spec_l1Below.f s0_0 bt164.2.1 bt164.2.2 2).bind fun bt172 => (if y169.length < 17592186044416 then (some ((y169 ++ [wrap64 ((-2) - bt172.1)]),bt172.2.1,bt172.2.2)) else (none)))) else (none)))) = some (r1,r2,r3) := by rw [if_neg (show ¬ (false = true) by decide)] at H; exact H
     clear H
     have H := H1
     clear H1
     replace H := QT.mp H
     obtain ⟨⟨t159,t162,t163⟩,A190,H⟩ := H
     replace H : ((spec_l8Draw.f kj2 s0_0 t162 t163 (wrap64 (a1 - 1))).bind fun bt164 => (if t159.length + bt164.1.length < 17592186044416 then ((some (t159 ++ bt164.1 : List Int)).bind fun y169 => ((spec_l1Below.f s0_0 bt164.2.1 bt164.2.2 2).bind fun bt172 => (if y169.length < 17592186044416 then (some ((y169 ++ [wrap64 ((-2) - bt172.1)]),bt172.2.1,bt172.2.2)) else (none)))) else (none))) = some (r1,r2,r3) := H
     have A19 := QS A190
     clear A190
     replace H := QT.mp H
     obtain ⟨⟨t164,t167,t168⟩,A200,H⟩ := H
     replace H : (if t159.length + t164.length < 17592186044416 then ((some (t159 ++ t164 : List Int)).bind fun y169 => ((spec_l1Below.f s0_0 t167 t168 2).bind fun bt172 => (if y169.length < 17592186044416 then (some ((y169 ++ [wrap64 ((-2) - bt172.1)]),bt172.2.1,bt172.2.2)) else (none)))) else (none)) = some (r1,r2,r3) := H
     have A20 := QS A200
     clear A200
     by_cases c21 : t159.length + t164.length < 17592186044416
     ·rw [if_pos c21] at H
      have LMc21 := QS c21
      clear c21
      obtain ⟨y169,hy169⟩ : ∃ y_ : List Int,y_ = (t159 ++ t164) := ⟨_,rfl⟩
      replace H : ((spec_l1Below.f s0_0 t167 t168 2).bind fun bt172 => (if y169.length < 17592186044416 then (some ((y169 ++ [wrap64 ((-2) - bt172.1)]),bt172.2.1,bt172.2.2)) else (none))) = some (r1,r2,r3) := by first | (rw [hy169]; with_reducible exact H) | (have H2_ := (Option.bind_some _ _).symm.trans H; rw [hy169]; with_reducible exact H2_) | (have H2_ := (Option.bind_some _ _).symm.trans H; with_reducible exact H2_) | with_reducible exact H | (rw [hy169]; exact H) | exact H
      have Ny169 := QS hy169
      clear hy169
      replace H := QT.mp H
      obtain ⟨⟨t172,t173,t174⟩,A220,H⟩ := H
      replace H : (if y169.length < 17592186044416 then (some ((y169 ++ [wrap64 ((-2) - t172)]),t173,t174)) else (none)) = some (r1,r2,r3) := H
      have A22 := QS A220
      clear A220
      by_cases c23 : y169.length < 17592186044416
      ·rw [if_pos c23] at H
       have LMc23 := QS c23
       clear c23
       obtain ⟨y175,hy175⟩ : ∃ y_ : List Int,y_ = (y169 ++ [wrap64 ((-2) - t172)]) := ⟨_,rfl⟩
       replace H : (some (y175,t173,t174)) = some (r1,r2,r3) := by first | (rw [hy175]; with_reducible exact H) | (have H2_ := (Option.bind_some _ _).symm.trans H; rw [hy175]; with_reducible exact H2_) | (have H2_ := (Option.bind_some _ _).symm.trans H; with_reducible exact H2_) | with_reducible exact H | (rw [hy175]; exact H) | exact H
       have Ny175 := QS hy175
       clear hy175
       simp only [Option.some.injEq,Prod.mk.injEq] at H
       obtain ⟨rfl,rfl,rfl⟩ := H
       go_wp2_with (first | ((with_reducible refine QL (f := 80) rfl ?_); refine goesL_ (some 16) rfl rfl Tryd.func80 (by kernel_rfl) rfl #[.pointer (some ⟨g,0,none⟩),.int .i64 4] rfl (by (try simp only [List.map_toArray,List.map_cons,List.map_nil]); first | done | rfl | (simp only [List.length_drop,List.length_take]; rfl)) ?_; (with_reducible refine (spec_l1Once.calls g s0_0 x1001_2 x1002_2 4 false t149 t150 w0 _ ?side1 ?side2 A12.out).mono ?_); (case side1 => repeat (first | (with_reducible first | exact HI0.out | apply IsS80.alloc | apply IsS80.drewN | apply IsS80.drew | apply IsS80.set_1 | apply IsS80.set_2) | exact HI0.out)); (case side2 => repeat (first | (with_reducible first | exact HB.out | apply QC | apply QB | apply QD | refine QG ?_ (IsS80.ge HI0.out)) | exact HB.out)); rintro e w24 ⟨rfl,hi,hb,hk⟩; refine ⟨_,rfl,?_⟩; have n0_ := QS (KeepBut.trans (by repeat (first | (with_reducible first | exact HK.out | apply KeepBut.set_ | apply QE | apply QH | apply QF) | exact HK.out)) hk (.inl rfl)); have n1_ := QS (hb); have n2_ := QS (hi); clear HK; clear HB; clear HI0; revert n0_ n1_ n2_; intro HK HB HI0; (try clear hb); (try clear hk); (try clear hi)) | ((with_reducible refine QL (f := 81) rfl ?_); refine goesL_ (some 26) rfl rfl Tryd.func81 (by kernel_rfl) rfl #[.pointer (some ⟨g,0,none⟩),.int .i64 (wrap64 (a1 - 1))] rfl (by (try simp only [List.map_toArray,List.map_cons,List.map_nil]); first | done | rfl | (simp only [List.length_drop,List.length_take]; rfl)) ?_; (with_reducible refine (ih kj2 (by have := HJ2.out; omega) g s0_0 t149 t150 (wrap64 (a1 - 1)) t159 t162 t163 w0 _ ?side1 ?side2 A19.out).mono ?_); (case side1 => repeat (first | (with_reducible first | exact HI0.out | apply IsS80.alloc | apply IsS80.drewN | apply IsS80.drew | apply IsS80.set_1 | apply IsS80.set_2) | exact HI0.out)); (case side2 => repeat (first | (with_reducible first | exact HB.out | apply QC | apply QB | apply QD | refine QG ?_ (IsS80.ge HI0.out)) | exact HB.out)); rintro e w25 ⟨v160,rfl,ho0,hi,hb,hk⟩; refine ⟨_,rfl,?_⟩; have n0_ := QS (Kd.R_lower ho0 (keep_size (w := w) (g := g) (row := none) (by repeat (first | (with_reducible first | exact HK.out | apply KeepBut.set_ | apply QE | apply QH | apply QF) | exact HK.out)))); have n1_ := QS (KeepBut.trans (by repeat (first | (with_reducible first | exact HK.out | apply KeepBut.set_ | apply QE | apply QH | apply QF) | exact HK.out)) hk (.inl rfl)); have n2_ := QS (hb); have n3_ := QS (hi); clear HK; clear HB; clear HI0; revert n0_ n1_ n2_ n3_; intro HO161 HK HB HI0; (try clear hb); (try clear hk); (try clear hi); (try clear ho0)) | ((with_reducible refine QL (f := 81) rfl ?_); refine goesL_ (some 31) rfl rfl Tryd.func81 (by kernel_rfl) rfl #[.pointer (some ⟨g,0,none⟩),.int .i64 (wrap64 (a1 - 1))] rfl (by (try simp only [List.map_toArray,List.map_cons,List.map_nil]); first | done | rfl | (simp only [List.length_drop,List.length_take]; rfl)) ?_; (with_reducible refine (ih kj2 (by have := HJ2.out; omega) g s0_0 t162 t163 (wrap64 (a1 - 1)) t164 t167 t168 w0 _ ?side1 ?side2 A20.out).mono ?_); (case side1 => repeat (first | (with_reducible first | exact HI0.out | apply IsS80.alloc | apply IsS80.drewN | apply IsS80.drew | apply IsS80.set_1 | apply IsS80.set_2) | exact HI0.out)); (case side2 => repeat (first | (with_reducible first | exact HB.out | apply QC | apply QB | apply QD | refine QG ?_ (IsS80.ge HI0.out)) | exact HB.out)); rintro e w26 ⟨v165,rfl,ho0,hi,hb,hk⟩; refine ⟨_,rfl,?_⟩; have n0_ := QS (QR (Kd.R_told (Kd.R_oldK (IsS80.apart (show IsS80 w0 _ g s0_0 t162 t163 from by repeat (first | (with_reducible first | exact HI0.out | apply IsS80.alloc | apply IsS80.drewN | apply IsS80.drew | apply IsS80.set_1 | apply IsS80.set_2) | exact HI0.out)) (by (with_reducible repeat (first | apply QM | apply QN | apply QO)); exact HO161.out) (by decide)) hk) (Kd.R_base ho0)) (fun _ h_ => h_.1)); have n1_ := QS (Kd.R_lower (Kd.R_new' ho0 (Kd.R_lt (by (with_reducible repeat (first | apply QM | apply QN | apply QO)); exact HO161.out))) (keep_size (w := w) (g := g) (row := none) (by repeat (first | (with_reducible first | exact HK.out | apply KeepBut.set_ | apply QE | apply QH | apply QF) | exact HK.out)))); have n2_ := QS (KeepBut.trans (by repeat (first | (with_reducible first | exact HK.out | apply KeepBut.set_ | apply QE | apply QH | apply QF) | exact HK.out)) hk (.inl rfl)); have n3_ := QS (hb); have n4_ := QS (hi); clear HO161; clear HK; clear HB; clear HI0; revert n0_ n1_ n2_ n3_ n4_; intro HO161 HO166 HK HB HI0; (try clear hb); (try clear hk); (try clear hi); (try clear ho0); obtain ⟨Ao28,co28,eo28⟩ := Kd.R_slice HO166.out; subst eo28) | ((with_reducible refine gate_builtin (b := .append) (xs := #[.tmp 27,.tmp 31]) rfl ?_); at_builtin; refine Kd.R_append_rows (Kd.int .i64) w.heap.size rfl (.tmp 27) (.tmp 31) 24 3 (.int .i64 0) 8 rfl Tryd.underlying24 info3 rfl (by decide) (by omega) v160 t159 t164 _ _ _ (fun k_ => some k_ ≠ (.slice Ao28 t164.length co28 : Value).ownBlock) (fun _ => False) rfl rfl ?aO ?aR (fun _ _ h => h) (fun _ h => h.elim) ?aF (Below.refl _ _) ?aS ?aL ?_; (case aR => repeat (first | exact (Kd.R_reads' HO166.out).2.2 | (with_reducible refine Kd.C_alloc ?_ _) | (with_reducible refine Kd.C_drewN ?_ _) | (with_reducible refine Kd.C_drew ?_))); (case aF => exact (fun k_ hk => Kd.fresh' (Kd.R_lt (by (with_reducible repeat (first | apply QM | apply QN | apply QO)); exact HO166.out)) k_ hk)); (case aO => exact (by (with_reducible repeat (first | apply QM | apply QN | apply QO)); exact QR HO161.out (by first | exact fun k_ hk => hk.2 | exact fun k_ hk => hk))); (case aS => exact (keep_size (w := w) (g := g) (row := none) (by repeat (first | (with_reducible first | exact HK.out | apply KeepBut.set_ | apply QE | apply QH | apply QF) | exact HK.out)))); (case aL => have := LMc21.out; omega); intro v170 w27 ho hb hg hat; rw [← Ny169.out] at ho; have n0_ := QS (IsS80.grown (by repeat (first | (with_reducible first | exact HI0.out | apply IsS80.alloc | apply IsS80.drewN | apply IsS80.drew | apply IsS80.set_1 | apply IsS80.set_2) | exact HI0.out)) hg (IsS80.own_ne HI0.out HO161.out (by decide))); have n1_ := QS (Kd.R_after (ok := (fun _ => True)) (by (with_reducible repeat (first | apply QM | apply QN | apply QO)); exact HO166.out) hg hat); have n2_ := QS (below_weaken (by repeat (first | (with_reducible first | exact HB.out | apply QC | apply QB | apply QD | refine QG ?_ (IsS80.ge HI0.out)) | exact HB.out)) HL.out hb); have n3_ := QS (KeepBut.trans (by repeat (first | (with_reducible first | exact HK.out | apply KeepBut.set_ | apply QE | apply QH | apply QF) | exact HK.out)) (KeepBut.of_grown hg g) (Kd.R_base2 HO161.out)); have n4_ := QS (ho); clear HI0; clear HO166; clear HB; clear HK; clear HO161; revert n0_ n1_ n2_ n3_ n4_; intro HI0 HO166 HB HK HO171; clear ho hb hg hat) | ((with_reducible refine QL (f := 38) rfl ?_); refine goesL_ (some 34) rfl rfl Tryd.func38 (by kernel_rfl) rfl #[.pointer (some ⟨g,0,none⟩),.int .i64 2] rfl (by (try simp only [List.map_toArray,List.map_cons,List.map_nil]); first | done | rfl | (simp only [List.length_drop,List.length_take]; rfl)) ?_; (with_reducible refine (spec_l1Below.calls g s0_0 t167 t168 2 t172 t173 t174 w0 _ ?side1 ?side2 A22.out).mono ?_); (case side1 => repeat (first | (with_reducible first | exact HI0.out | apply IsS80.alloc | apply IsS80.drewN | apply IsS80.drew | apply IsS80.set_1 | apply IsS80.set_2) | exact HI0.out)); (case side2 => repeat (first | (with_reducible first | exact HB.out | apply QC | apply QB | apply QD | refine QG ?_ (IsS80.ge HI0.out)) | exact HB.out)); rintro e w29 ⟨rfl,hi,hb,hk⟩; refine ⟨_,rfl,?_⟩; have n0_ := QS (QR (Kd.R_keep (IsS80.apart (show IsS80 w0 _ g s0_0 t167 t168 from by repeat (first | (with_reducible first | exact HI0.out | apply IsS80.alloc | apply IsS80.drewN | apply IsS80.drew | apply IsS80.set_1 | apply IsS80.set_2) | exact HI0.out)) (by (with_reducible repeat (first | apply QM | apply QN | apply QO)); exact HO166.out) (by decide)) hk (fun _ h => h.2)) (fun _ h => h.1)); have n1_ := QS (QR (Kd.R_keep (IsS80.apart (show IsS80 w0 _ g s0_0 t167 t168 from by repeat (first | (with_reducible first | exact HI0.out | apply IsS80.alloc | apply IsS80.drewN | apply IsS80.drew | apply IsS80.set_1 | apply IsS80.set_2) | exact HI0.out)) (by (with_reducible repeat (first | apply QM | apply QN | apply QO)); exact HO171.out) (by decide)) hk (fun _ h => h.2)) (fun _ h => h.1)); have n2_ := QS (KeepBut.trans (by repeat (first | (with_reducible first | exact HK.out | apply KeepBut.set_ | apply QE | apply QH | apply QF) | exact HK.out)) hk (.inl rfl)); have n3_ := QS (hb); have n4_ := QS (hi); clear HO166; clear HO171; clear HK; clear HB; clear HI0; revert n0_ n1_ n2_ n3_ n4_; intro HO166 HO171 HK HB HI0; (try clear hb); (try clear hk); (try clear hi)) | ((with_reducible refine gate_builtin (b := .append) (xs := #[.tmp 32,.tmp 36]) rfl ?_); at_builtin; refine Kd.R_append (Kd.int .i64) w.heap.size rfl (.tmp 32) (.tmp 36) 24 3 (.int .i64 0) 8 rfl Tryd.underlying24 info3 rfl (by decide) (by omega) v170 y169 (wrap64 ((-2) - t172)) [.int .i64 (wrap64 ((-2) - t172))] (fun k_ => some k_ ≠ (.slice Ao28 t164.length co28 : Value).ownBlock) (fun _ => False) rfl rfl ?aP (fun _ hk => hk.elim) ?aF ?aO (Below.refl _ _) ?aS ?aL ?_; (case aP => exact rfl); (case aF => exact (fun k_ hk => Kd.fresh' (Kd.R_lt (by (with_reducible repeat (first | apply QM | apply QN | apply QO)); exact HO166.out)) k_ hk)); (case aO => exact (by (with_reducible repeat (first | apply QM | apply QN | apply QO)); exact HO171.out)); (case aS => exact (keep_size (w := w) (g := g) (row := none) (by repeat (first | (with_reducible first | exact HK.out | apply KeepBut.set_ | apply QE | apply QH | apply QF) | exact HK.out)))); (case aL => have := LMc23.out; omega); intro v176 w30 ho hb hg hat; rw [← Ny175.out] at ho; have n0_ := QS (IsS80.grown (by repeat (first | (with_reducible first | exact HI0.out | apply IsS80.alloc | apply IsS80.drewN | apply IsS80.drew | apply IsS80.set_1 | apply IsS80.set_2) | exact HI0.out)) hg (IsS80.own_ne HI0.out HO171.out (by decide))); have n1_ := QS (Kd.R_after (ok := (fun _ => True)) (by (with_reducible repeat (first | apply QM | apply QN | apply QO)); exact HO166.out) hg hat); have n2_ := QS (below_weaken (by repeat (first | (with_reducible first | exact HB.out | apply QC | apply QB | apply QD | refine QG ?_ (IsS80.ge HI0.out)) | exact HB.out)) HL.out hb); have n3_ := QS (KeepBut.trans (by repeat (first | (with_reducible first | exact HK.out | apply KeepBut.set_ | apply QE | apply QH | apply QF) | exact HK.out)) (KeepBut.of_grown hg g) (Kd.R_base2 HO171.out)); have n4_ := QS (ho); clear HI0; clear HO166; clear HB; clear HK; clear HO171; revert n0_ n1_ n2_ n3_ n4_; intro HI0 HO166 HB HK HO177; clear ho hb hg hat))
       go_ret
       exact ⟨_,by first | rfl | (simp [errW_none,errW_some] <;> rfl) | (simp [*,errW_none,errW_some] <;> rfl),by (with_reducible repeat (first | apply QM | apply QN | apply QO)); exact QR HO177.out (fun _ hk => trivial),by repeat (first | (with_reducible first | exact HI0.out | apply IsS80.alloc | apply IsS80.drewN | apply IsS80.drew | apply IsS80.set_1 | apply IsS80.set_2) | exact HI0.out),by repeat (first | (with_reducible first | exact HB.out | apply QC | apply QB | apply QD | refine QG ?_ (IsS80.ge HI0.out)) | exact HB.out),by repeat (first | (with_reducible first | exact HK.out | apply KeepBut.set_ | apply QE | apply QH | apply QF) | exact HK.out)⟩
      ·rw [if_neg c23] at H
       exact absurd H (by simp)
     ·rw [if_neg c21] at H
      exact absurd H (by simp)

/-! ### spec_l22Draw: function 61 -/
def spec_l22Draw.j0 : Nat → List Int → Int → Int → Int → Int → Bool → Bool → List Int → Int → Int → Option (Int × Int × Bool × Bool × List Int × List Int × Int × Int × Int × Int)
 | 0,_,_,_,_,_,_,_,_,_,_ => none
 | k + 1,x1000,x1001,x1002,x195000,x195001,x195002,x195003,x195004,x195006,x195007 => (spec_l1Once.f x1000 x1001 x1002 2).bind fun bt203 => (if bt203.1 = true then ((spec_l8Draw.f k x1000 bt203.2.1 bt203.2.2 1).bind fun bt206 => (some (x195000,x195001,x195002,x195003,x195004,bt206.1,x195006,x195007,bt206.2.1,bt206.2.2))) else (some (x195000,x195001,x195002,x195003,x195004,([] : List Int),x195006,x195007,bt203.2.1,bt203.2.2)))
def spec_l22Draw.f (k : Nat) (s0_0 : List Int) (s0_1 : Int) (s0_2 : Int) : Option (Int × Int × Bool × Bool × List Int × List Int × Int × Int × Int × Int) := (spec_l1Below.f s0_0 s0_1 s0_2 4).bind fun bt179 => ((spec_l1Below.f s0_0 bt179.2.1 bt179.2.2 6).bind fun bt182 => ((spec_l1Once.f s0_0 bt182.2.1 bt182.2.2 2).bind fun bt185 => ((spec_l1Below.f s0_0 bt185.2.1 bt185.2.2 2).bind fun bt188 => ((spec_l1Below.f s0_0 bt188.2.1 bt188.2.2 60).bind fun bt191 => ((spec_l1Once.f s0_0 bt191.2.1 bt191.2.2 2).bind fun bt195 => (if bt195.1 = true then ((spec_l8Draw.f k s0_0 bt195.2.1 bt195.2.2 1).bind fun bt198 => (spec_l22Draw.j0 k s0_0 bt198.2.1 bt198.2.2 (wrap64 (2 + bt179.1)) (wrap64 (1 + bt182.1)) bt185.1 true bt198.1 (wrap64 (1 + bt188.1)) (wrap64 (20 + bt191.1)))) else (spec_l22Draw.j0 k s0_0 bt195.2.1 bt195.2.2 (wrap64 (2 + bt179.1)) (wrap64 (1 + bt182.1)) bt185.1 true ([] : List Int) (wrap64 (1 + bt188.1)) (wrap64 (20 + bt191.1)))))))))
theorem spec_l22Draw.mono_l : ∀ k, (∀ y0 y1 y2 y3 y4 y5 y6 y7 y8 y9, LeO (spec_l22Draw.j0 k y0 y1 y2 y3 y4 y5 y6 y7 y8 y9) (spec_l22Draw.j0 (k + 1) y0 y1 y2 y3 y4 y5 y6 y7 y8 y9))
 | 0 => fun _ _ _ _ _ _ _ _ _ _ r h => by simp [spec_l22Draw.j0] at h
 | k + 1 => by
  have ih0 := spec_l22Draw.mono_l k
  ·intro y0 y1 y2 y3 y4 y5 y6 y7 y8 y9
   unfold spec_l22Draw.j0
   repeat' first
   | (with_reducible exact ih0 _ _ _ _ _ _ _ _ _ _)
   | (with_reducible exact spec_l8Draw.mono _ _ _ _ _)
   | (with_reducible exact LeO.refl _)
   | (with_reducible exact LeO.none _)
   | (with_reducible refine LeO.ite ?_ ?_)
   | (with_reducible refine LeO.bind ?_ (fun _ => ?_))
   | exact ih0 _ _ _ _ _ _ _ _ _ _
   | exact spec_l8Draw.mono _ _ _ _ _
   | exact LeO.none _
   | refine LeO.ite ?_ ?_
   | refine LeO.bind ?_ (fun _ => ?_)
theorem spec_l22Draw.mono : ∀ a0 a1 a2 k, LeO (spec_l22Draw.f k a0 a1 a2) (spec_l22Draw.f (k + 1) a0 a1 a2) := by
 intro a0 a1 a2 k
 have ih0 := spec_l22Draw.mono_l k
 unfold spec_l22Draw.f
 repeat' first
   | (with_reducible exact ih0 _ _ _ _ _ _ _ _ _ _)
   | (with_reducible exact spec_l8Draw.mono _ _ _ _ _)
   | (with_reducible exact LeO.refl _)
   | (with_reducible exact LeO.none _)
   | (with_reducible refine LeO.ite ?_ ?_)
   | (with_reducible refine LeO.bind ?_ (fun _ => ?_))
   | exact ih0 _ _ _ _ _ _ _ _ _ _
   | exact spec_l8Draw.mono _ _ _ _ _
   | exact LeO.none _
   | refine LeO.ite ?_ ?_
   | refine LeO.bind ?_ (fun _ => ?_)
set_option maxHeartbeats 8000000 in
set_option maxRecDepth 100000 in
theorem spec_l22Draw.calls (k : Nat) (g : Nat) (s0_0 : List Int) (s0_1 : Int) (s0_2 : Int) (r1 : Int) (r2 : Int) (r3 : Bool) (r4 : Bool) (r5 : List Int) (r6 : List Int) (r7 : Int) (r8 : Int) (r9 : Int) (r10 : Int) (w0 w : World) (hI : IsS80 w0 w g s0_0 s0_1 s0_2) (hB : Below w0.heap.size w0 w) (h : spec_l22Draw.f k s0_0 s0_1 s0_2 = some (r1, r2, r3, r4, r5, r6, r7, r8, r9, r10)) :
  Calls Tryd.prog 61 #[.pointer (some ⟨g,0,none⟩)] w fun e w' => ∃ v4_ v5_ : Value,e = .returned (.agg #[.int .i64 r1,.int .i64 r2,.bool r3,.bool r4,v4_,v5_,.int .i64 r7,.int .i64 r8]) ∧ Kd.R (Kd.int .i64) 3 w' w.heap.size (fun k_ => some k_ ≠ (v5_ : Value).ownBlock) v4_ r5 ∧ Kd.R (Kd.int .i64) 3 w' w.heap.size (fun k_ => some k_ ≠ (v4_ : Value).ownBlock) v5_ r6 ∧ IsS80 w0 w' g s0_0 r9 r10 ∧ Below w0.heap.size w0 w' ∧ KeepBut w w' g none := by
 have hu26 := Tryd.underlying26
 have HI0 := QS hI
 have HK := QS (KeepBut.refl w g none)
 have HL := QS hB.size
 clear hI
 have HW0 := QS hB.size
 have HB := QS hB
 clear hB
 have H : ((spec_l1Below.f s0_0 s0_1 s0_2 4).bind fun bt179 => ((spec_l1Below.f s0_0 bt179.2.1 bt179.2.2 6).bind fun bt182 => ((spec_l1Once.f s0_0 bt182.2.1 bt182.2.2 2).bind fun bt185 => ((spec_l1Below.f s0_0 bt185.2.1 bt185.2.2 2).bind fun bt188 => ((spec_l1Below.f s0_0 bt188.2.1 bt188.2.2 60).bind fun bt191 => ((spec_l1Once.f s0_0 bt191.2.1 bt191.2.2 2).bind fun bt195 => (if bt195.1 = true then ((spec_l8Draw.f k s0_0 bt195.2.1 bt195.2.2 1).bind fun bt198 => (spec_l22Draw.j0 k s0_0 bt198.2.1 bt198.2.2 (wrap64 (2 + bt179.1)) (wrap64 (1 + bt182.1)) bt185.1 true bt198.1 (wrap64 (1 + bt188.1)) (wrap64 (20 + bt191.1)))) else (spec_l22Draw.j0 k s0_0 bt195.2.1 bt195.2.2 (wrap64 (2 + bt179.1)) (wrap64 (1 + bt182.1)) bt185.1 true ([] : List Int) (wrap64 (1 + bt188.1)) (wrap64 (20 + bt191.1)))))))))) = some (r1,r2,r3,r4,r5,r6,r7,r8,r9,r10) := h
 clear h
 replace H := QT.mp H
 obtain ⟨⟨t179,t180,t181⟩,A20,H⟩ := H
 replace H : ((spec_l1Below.f s0_0 t180 t181 6).bind fun bt182 => ((spec_l1Once.f s0_0 bt182.2.1 bt182.2.2 2).bind fun bt185 => ((spec_l1Below.f s0_0 bt185.2.1 bt185.2.2 2).bind fun bt188 => ((spec_l1Below.f s0_0 bt188.2.1 bt188.2.2 60).bind fun bt191 => ((spec_l1Once.f s0_0 bt191.2.1 bt191.2.2 2).bind fun bt195 => (if bt195.1 = true then ((spec_l8Draw.f k s0_0 bt195.2.1 bt195.2.2 1).bind fun bt198 => (spec_l22Draw.j0 k s0_0 bt198.2.1 bt198.2.2 (wrap64 (2 + t179)) (wrap64 (1 + bt182.1)) bt185.1 true bt198.1 (wrap64 (1 + bt188.1)) (wrap64 (20 + bt191.1)))) else (spec_l22Draw.j0 k s0_0 bt195.2.1 bt195.2.2 (wrap64 (2 + t179)) (wrap64 (1 + bt182.1)) bt185.1 true ([] : List Int) (wrap64 (1 + bt188.1)) (wrap64 (20 + bt191.1))))))))) = some (r1,r2,r3,r4,r5,r6,r7,r8,r9,r10) := H
 have A2 := QS A20
 clear A20
 replace H := QT.mp H
 obtain ⟨⟨t182,t183,t184⟩,A30,H⟩ := H
 replace H : ((spec_l1Once.f s0_0 t183 t184 2).bind fun bt185 => ((spec_l1Below.f s0_0 bt185.2.1 bt185.2.2 2).bind fun bt188 => ((spec_l1Below.f s0_0 bt188.2.1 bt188.2.2 60).bind fun bt191 => ((spec_l1Once.f s0_0 bt191.2.1 bt191.2.2 2).bind fun bt195 => (if bt195.1 = true then ((spec_l8Draw.f k s0_0 bt195.2.1 bt195.2.2 1).bind fun bt198 => (spec_l22Draw.j0 k s0_0 bt198.2.1 bt198.2.2 (wrap64 (2 + t179)) (wrap64 (1 + t182)) bt185.1 true bt198.1 (wrap64 (1 + bt188.1)) (wrap64 (20 + bt191.1)))) else (spec_l22Draw.j0 k s0_0 bt195.2.1 bt195.2.2 (wrap64 (2 + t179)) (wrap64 (1 + t182)) bt185.1 true ([] : List Int) (wrap64 (1 + bt188.1)) (wrap64 (20 + bt191.1)))))))) = some (r1,r2,r3,r4,r5,r6,r7,r8,r9,r10) := H
 have A3 := QS A30
 clear A30
 replace H := QT.mp H
 obtain ⟨⟨t185,t186,t187⟩,A40,H⟩ := H
 replace H : ((spec_l1Below.f s0_0 t186 t187 2).bind fun bt188 => ((spec_l1Below.f s0_0 bt188.2.1 bt188.2.2 60).bind fun bt191 => ((spec_l1Once.f s0_0 bt191.2.1 bt191.2.2 2).bind fun bt195 => (if bt195.1 = true then ((spec_l8Draw.f k s0_0 bt195.2.1 bt195.2.2 1).bind fun bt198 => (spec_l22Draw.j0 k s0_0 bt198.2.1 bt198.2.2 (wrap64 (2 + t179)) (wrap64 (1 + t182)) t185 true bt198.1 (wrap64 (1 + bt188.1)) (wrap64 (20 + bt191.1)))) else (spec_l22Draw.j0 k s0_0 bt195.2.1 bt195.2.2 (wrap64 (2 + t179)) (wrap64 (1 + t182)) t185 true ([] : List Int) (wrap64 (1 + bt188.1)) (wrap64 (20 + bt191.1))))))) = some (r1,r2,r3,r4,r5,r6,r7,r8,r9,r10) := H
 have A4 := QS A40
 clear A40
 replace H := QT.mp H
 obtain ⟨⟨t188,t189,t190⟩,A50,H⟩ := H
 replace H : ((spec_l1Below.f s0_0 t189 t190 60).bind fun bt191 => ((spec_l1Once.f s0_0 bt191.2.1 bt191.2.2 2).bind fun bt195 => (if bt195.1 = true then ((spec_l8Draw.f k s0_0 bt195.2.1 bt195.2.2 1).bind fun bt198 => (spec_l22Draw.j0 k s0_0 bt198.2.1 bt198.2.2 (wrap64 (2 + t179)) (wrap64 (1 + t182)) t185 true bt198.1 (wrap64 (1 + t188)) (wrap64 (20 + bt191.1)))) else (spec_l22Draw.j0 k s0_0 bt195.2.1 bt195.2.2 (wrap64 (2 + t179)) (wrap64 (1 + t182)) t185 true ([] : List Int) (wrap64 (1 + t188)) (wrap64 (20 + bt191.1)))))) = some (r1,r2,r3,r4,r5,r6,r7,r8,r9,r10) := H
 have A5 := QS A50
 clear A50
 replace H := QT.mp H
 obtain ⟨⟨t191,t192,t193⟩,A60,H⟩ := H
 replace H : ((spec_l1Once.f s0_0 t192 t193 2).bind fun bt195 => (if bt195.1 = true then ((spec_l8Draw.f k s0_0 bt195.2.1 bt195.2.2 1).bind fun bt198 => (spec_l22Draw.j0 k s0_0 bt198.2.1 bt198.2.2 (wrap64 (2 + t179)) (wrap64 (1 + t182)) t185 true bt198.1 (wrap64 (1 + t188)) (wrap64 (20 + t191)))) else (spec_l22Draw.j0 k s0_0 bt195.2.1 bt195.2.2 (wrap64 (2 + t179)) (wrap64 (1 + t182)) t185 true ([] : List Int) (wrap64 (1 + t188)) (wrap64 (20 + t191))))) = some (r1,r2,r3,r4,r5,r6,r7,r8,r9,r10) := H
 have A6 := QS A60
 clear A60
 replace H := QT.mp H
 obtain ⟨⟨t195,t196,t197⟩,A70,H⟩ := H
 replace H : (if t195 = true then ((spec_l8Draw.f k s0_0 t196 t197 1).bind fun bt198 => (spec_l22Draw.j0 k s0_0 bt198.2.1 bt198.2.2 (wrap64 (2 + t179)) (wrap64 (1 + t182)) t185 true bt198.1 (wrap64 (1 + t188)) (wrap64 (20 + t191)))) else (spec_l22Draw.j0 k s0_0 t196 t197 (wrap64 (2 + t179)) (wrap64 (1 + t182)) t185 true ([] : List Int) (wrap64 (1 + t188)) (wrap64 (20 + t191)))) = some (r1,r2,r3,r4,r5,r6,r7,r8,r9,r10) := H
 have A7 := QS A70
 clear A70
 have HC8 := QS H
 clear H
 go_enter Tryd.func61,Tryd.ntmps61
 go_upto_if 20 with (first | ((with_reducible refine gate_dst (N := 2) rfl ?_); refine box_event ?hg (N := 2) ?hd (cs := #[.int .i64 0,.int .i64 0,.bool false,.bool false,.slice none 0 0,.slice none 0 0,.int .i64 0,.int .i64 0]) (t := 26) ?hr ?_; (case hd => rfl); (case hg => rfl); (case hr => first | (go_simp; done) | (go_simp; rfl)); intro gb178 hg w9 hbox hb; have n0_ := QS (IsS80.below (by repeat (first | (with_reducible first | exact HI0.out | apply IsS80.alloc | apply IsS80.drewN | apply IsS80.drew | apply IsS80.set_1 | apply IsS80.set_2) | exact HI0.out)) hb); have n1_ := QS (KeepBut.trans (by repeat (first | (with_reducible first | exact HK.out | apply KeepBut.set_ | apply QE | apply QH | apply QF) | exact HK.out)) (KeepBut.of_below hb g none) (.inl rfl)); have n2_ := QS (below_step (by repeat (first | (with_reducible first | exact HB.out | apply QC | apply QB | apply QD | refine QG ?_ (IsS80.ge HI0.out)) | exact HB.out)) hb); have n3_ := QS (hbox); have n4_ := QS ((by rw [hg]; exact (keep_size (w := w) (g := g) (row := none) (by repeat (first | (with_reducible first | exact HK.out | apply KeepBut.set_ | apply QE | apply QH | apply QF) | exact HK.out))) : w.heap.size ≤ gb178)); have n5_ := QS ((Nat.le_trans HW0.out (by rw [hg]; exact (keep_size (w := w) (g := g) (row := none) (by repeat (first | (with_reducible first | exact HK.out | apply KeepBut.set_ | apply QE | apply QH | apply QF) | exact HK.out))) : w.heap.size ≤ gb178) : w0.heap.size ≤ gb178)); have n6_ := QS ((by rw [hg]; exact Nat.ne_of_lt (IsS80.lt (show IsS80 w0 _ g s0_0 s0_1 s0_2 from by repeat (first | (with_reducible first | exact HI0.out | apply IsS80.alloc | apply IsS80.drewN | apply IsS80.drew | apply IsS80.set_1 | apply IsS80.set_2) | exact HI0.out))) : g ≠ gb178)); have n7_ := QS ((by rw [hg]; exact Nat.ne_of_gt (IsS80.lt (show IsS80 w0 _ g s0_0 s0_1 s0_2 from by repeat (first | (with_reducible first | exact HI0.out | apply IsS80.alloc | apply IsS80.drewN | apply IsS80.drew | apply IsS80.set_1 | apply IsS80.set_2) | exact HI0.out))) : gb178 ≠ g)); clear HI0; clear HK; clear HB; revert n0_ n1_ n2_ n3_ n4_ n5_ n6_ n7_; intro HI0 HK HB BK178 GW178 GE178 NB0_178 NB178_0; clear hb hbox hg) | ((with_reducible refine QL (f := 38) rfl ?_); refine goesL_ (some 5) rfl rfl Tryd.func38 (by kernel_rfl) rfl #[.pointer (some ⟨g,0,none⟩),.int .i64 4] rfl (by (try simp only [List.map_toArray,List.map_cons,List.map_nil]); first | done | rfl | (simp only [List.length_drop,List.length_take]; rfl)) ?_; (with_reducible refine (spec_l1Below.calls g s0_0 s0_1 s0_2 4 t179 t180 t181 w0 _ ?side1 ?side2 A2.out).mono ?_); (case side1 => repeat (first | (with_reducible first | exact HI0.out | apply IsS80.alloc | apply IsS80.drewN | apply IsS80.drew | apply IsS80.set_1 | apply IsS80.set_2 | refine IsS80.far ?_ NB0_178.out _) | exact HI0.out)); (case side2 => repeat (first | (with_reducible first | exact HB.out | apply QC | apply QB | apply QD | refine QG ?_ (IsS80.ge HI0.out) | refine QG ?_ GE178.out) | exact HB.out)); rintro e w10 ⟨rfl,hi,hb,hk⟩; refine ⟨_,rfl,?_⟩; have n0_ := QS (KeepBut.blk hk (g' := gb178) (o := .cells #[.int .i64 0,.int .i64 0,.bool false,.bool false,.slice none 0 0,.slice none 0 0,.int .i64 0,.int .i64 0] 26 (0,0)) (by (with_reducible repeat (first | refine QI ?_ _ | refine QK ?_ | refine QJ ?_ _)); exact BK178.out) NB178_0.out (by simp)); have n1_ := QS (KeepBut.trans (by repeat (first | (with_reducible first | exact HK.out | apply KeepBut.set_ | apply QE | apply QH | apply QF | refine QP ?_ GW178.out _) | exact HK.out)) hk (.inl rfl)); have n2_ := QS (hb); have n3_ := QS (hi); clear BK178; clear HK; clear HB; clear HI0; revert n0_ n1_ n2_ n3_; intro BK178 HK HB HI0; (try clear hb); (try clear hk); (try clear hi)) | ((with_reducible refine QL (f := 38) rfl ?_); refine goesL_ (some 8) rfl rfl Tryd.func38 (by kernel_rfl) rfl #[.pointer (some ⟨g,0,none⟩),.int .i64 6] rfl (by (try simp only [List.map_toArray,List.map_cons,List.map_nil]); first | done | rfl | (simp only [List.length_drop,List.length_take]; rfl)) ?_; (with_reducible refine (spec_l1Below.calls g s0_0 t180 t181 6 t182 t183 t184 w0 _ ?side1 ?side2 A3.out).mono ?_); (case side1 => repeat (first | (with_reducible first | exact HI0.out | apply IsS80.alloc | apply IsS80.drewN | apply IsS80.drew | apply IsS80.set_1 | apply IsS80.set_2 | refine IsS80.far ?_ NB0_178.out _) | exact HI0.out)); (case side2 => repeat (first | (with_reducible first | exact HB.out | apply QC | apply QB | apply QD | refine QG ?_ (IsS80.ge HI0.out) | refine QG ?_ GE178.out) | exact HB.out)); rintro e w11 ⟨rfl,hi,hb,hk⟩; refine ⟨_,rfl,?_⟩; have n0_ := QS (KeepBut.blk hk (g' := gb178) (o := .cells #[.int .i64 0,.int .i64 0,.bool false,.bool false,.slice none 0 0,.slice none 0 0,.int .i64 0,.int .i64 0] 26 (0,0)) (by (with_reducible repeat (first | refine QI ?_ _ | refine QK ?_ | refine QJ ?_ _)); exact BK178.out) NB178_0.out (by simp)); have n1_ := QS (KeepBut.trans (by repeat (first | (with_reducible first | exact HK.out | apply KeepBut.set_ | apply QE | apply QH | apply QF | refine QP ?_ GW178.out _) | exact HK.out)) hk (.inl rfl)); have n2_ := QS (hb); have n3_ := QS (hi); clear BK178; clear HK; clear HB; clear HI0; revert n0_ n1_ n2_ n3_; intro BK178 HK HB HI0; (try clear hb); (try clear hk); (try clear hi)) | ((with_reducible refine QL (f := 80) rfl ?_); refine goesL_ (some 11) rfl rfl Tryd.func80 (by kernel_rfl) rfl #[.pointer (some ⟨g,0,none⟩),.int .i64 2] rfl (by (try simp only [List.map_toArray,List.map_cons,List.map_nil]); first | done | rfl | (simp only [List.length_drop,List.length_take]; rfl)) ?_; (with_reducible refine (spec_l1Once.calls g s0_0 t183 t184 2 t185 t186 t187 w0 _ ?side1 ?side2 A4.out).mono ?_); (case side1 => repeat (first | (with_reducible first | exact HI0.out | apply IsS80.alloc | apply IsS80.drewN | apply IsS80.drew | apply IsS80.set_1 | apply IsS80.set_2 | refine IsS80.far ?_ NB0_178.out _) | exact HI0.out)); (case side2 => repeat (first | (with_reducible first | exact HB.out | apply QC | apply QB | apply QD | refine QG ?_ (IsS80.ge HI0.out) | refine QG ?_ GE178.out) | exact HB.out)); rintro e w12 ⟨rfl,hi,hb,hk⟩; refine ⟨_,rfl,?_⟩; have n0_ := QS (KeepBut.blk hk (g' := gb178) (o := .cells #[.int .i64 0,.int .i64 0,.bool false,.bool false,.slice none 0 0,.slice none 0 0,.int .i64 0,.int .i64 0] 26 (0,0)) (by (with_reducible repeat (first | refine QI ?_ _ | refine QK ?_ | refine QJ ?_ _)); exact BK178.out) NB178_0.out (by simp)); have n1_ := QS (KeepBut.trans (by repeat (first | (with_reducible first | exact HK.out | apply KeepBut.set_ | apply QE | apply QH | apply QF | refine QP ?_ GW178.out _) | exact HK.out)) hk (.inl rfl)); have n2_ := QS (hb); have n3_ := QS (hi); clear BK178; clear HK; clear HB; clear HI0; revert n0_ n1_ n2_ n3_; intro BK178 HK HB HI0; (try clear hb); (try clear hk); (try clear hi)) | ((with_reducible refine QL (f := 38) rfl ?_); refine goesL_ (some 13) rfl rfl Tryd.func38 (by kernel_rfl) rfl #[.pointer (some ⟨g,0,none⟩),.int .i64 2] rfl (by (try simp only [List.map_toArray,List.map_cons,List.map_nil]); first | done | rfl | (simp only [List.length_drop,List.length_take]; rfl)) ?_; (with_reducible refine (spec_l1Below.calls g s0_0 t186 t187 2 t188 t189 t190 w0 _ ?side1 ?side2 A5.out).mono ?_); (case side1 => repeat (first | (with_reducible first | exact HI0.out | apply IsS80.alloc | apply IsS80.drewN | apply IsS80.drew | apply IsS80.set_1 | apply IsS80.set_2 | refine IsS80.far ?_ NB0_178.out _) | exact HI0.out)); (case side2 => repeat (first | (with_reducible first | exact HB.out | apply QC | apply QB | apply QD | refine QG ?_ (IsS80.ge HI0.out) | refine QG ?_ GE178.out) | exact HB.out)); rintro e w13 ⟨rfl,hi,hb,hk⟩; refine ⟨_,rfl,?_⟩; have n0_ := QS (KeepBut.blk hk (g' := gb178) (o := .cells #[.int .i64 0,.int .i64 0,.bool false,.bool false,.slice none 0 0,.slice none 0 0,.int .i64 0,.int .i64 0] 26 (0,0)) (by (with_reducible repeat (first | refine QI ?_ _ | refine QK ?_ | refine QJ ?_ _)); exact BK178.out) NB178_0.out (by simp)); have n1_ := QS (KeepBut.trans (by repeat (first | (with_reducible first | exact HK.out | apply KeepBut.set_ | apply QE | apply QH | apply QF | refine QP ?_ GW178.out _) | exact HK.out)) hk (.inl rfl)); have n2_ := QS (hb); have n3_ := QS (hi); clear BK178; clear HK; clear HB; clear HI0; revert n0_ n1_ n2_ n3_; intro BK178 HK HB HI0; (try clear hb); (try clear hk); (try clear hi)) | ((with_reducible refine QL (f := 38) rfl ?_); refine goesL_ (some 16) rfl rfl Tryd.func38 (by kernel_rfl) rfl #[.pointer (some ⟨g,0,none⟩),.int .i64 60] rfl (by (try simp only [List.map_toArray,List.map_cons,List.map_nil]); first | done | rfl | (simp only [List.length_drop,List.length_take]; rfl)) ?_; (with_reducible refine (spec_l1Below.calls g s0_0 t189 t190 60 t191 t192 t193 w0 _ ?side1 ?side2 A6.out).mono ?_); (case side1 => repeat (first | (with_reducible first | exact HI0.out | apply IsS80.alloc | apply IsS80.drewN | apply IsS80.drew | apply IsS80.set_1 | apply IsS80.set_2 | refine IsS80.far ?_ NB0_178.out _) | exact HI0.out)); (case side2 => repeat (first | (with_reducible first | exact HB.out | apply QC | apply QB | apply QD | refine QG ?_ (IsS80.ge HI0.out) | refine QG ?_ GE178.out) | exact HB.out)); rintro e w14 ⟨rfl,hi,hb,hk⟩; refine ⟨_,rfl,?_⟩; have n0_ := QS (KeepBut.blk hk (g' := gb178) (o := .cells #[.int .i64 0,.int .i64 0,.bool false,.bool false,.slice none 0 0,.slice none 0 0,.int .i64 0,.int .i64 0] 26 (0,0)) (by (with_reducible repeat (first | refine QI ?_ _ | refine QK ?_ | refine QJ ?_ _)); exact BK178.out) NB178_0.out (by simp)); have n1_ := QS (KeepBut.trans (by repeat (first | (with_reducible first | exact HK.out | apply KeepBut.set_ | apply QE | apply QH | apply QF | refine QP ?_ GW178.out _) | exact HK.out)) hk (.inl rfl)); have n2_ := QS (hb); have n3_ := QS (hi); clear BK178; clear HK; clear HB; clear HI0; revert n0_ n1_ n2_ n3_; intro BK178 HK HB HI0; (try clear hb); (try clear hk); (try clear hi)) | ((with_reducible refine gate_dst (N := 3) rfl ?_); refine box_event ?hg (N := 3) ?hd (cs := #[.int .i64 0,.int .i64 0,.bool false,.bool false,.slice none 0 0,.slice none 0 0,.int .i64 0,.int .i64 0]) (t := 26) ?hr ?_; (case hd => rfl); (case hg => rfl); (case hr => first | (go_simp; done) | (go_simp; rfl)); intro gb194 hg w15 hbox hb; have n0_ := QS (IsS80.below (by repeat (first | (with_reducible first | exact HI0.out | apply IsS80.alloc | apply IsS80.drewN | apply IsS80.drew | apply IsS80.set_1 | apply IsS80.set_2 | refine IsS80.far ?_ NB0_178.out _) | exact HI0.out)) hb); have n1_ := QS (blk_below (g := gb178) (o := .cells #[.int .i64 0,.int .i64 0,.bool false,.bool false,.slice none 0 0,.slice none 0 0,.int .i64 0,.int .i64 0] 26 (0,0)) (by (with_reducible repeat (first | refine QI ?_ _ | refine QK ?_ | refine QJ ?_ _)); exact BK178.out) hb); have n2_ := QS (KeepBut.trans (by repeat (first | (with_reducible first | exact HK.out | apply KeepBut.set_ | apply QE | apply QH | apply QF | refine QP ?_ GW178.out _) | exact HK.out)) (KeepBut.of_below hb g none) (.inl rfl)); have n3_ := QS (below_step (by repeat (first | (with_reducible first | exact HB.out | apply QC | apply QB | apply QD | refine QG ?_ (IsS80.ge HI0.out) | refine QG ?_ GE178.out) | exact HB.out)) hb); have n4_ := QS (hbox); have n5_ := QS ((by rw [hg]; exact (keep_size (w := w) (g := g) (row := none) (by repeat (first | (with_reducible first | exact HK.out | apply KeepBut.set_ | apply QE | apply QH | apply QF | refine QP ?_ GW178.out _) | exact HK.out))) : w.heap.size ≤ gb194)); have n6_ := QS ((Nat.le_trans HW0.out (by rw [hg]; exact (keep_size (w := w) (g := g) (row := none) (by repeat (first | (with_reducible first | exact HK.out | apply KeepBut.set_ | apply QE | apply QH | apply QF | refine QP ?_ GW178.out _) | exact HK.out))) : w.heap.size ≤ gb194) : w0.heap.size ≤ gb194)); have n7_ := QS ((by rw [hg]; exact Nat.ne_of_lt (blk_lt (g := gb178) (o := .cells #[.int .i64 0,.int .i64 0,.bool false,.bool false,.slice none 0 0,.slice none 0 0,.int .i64 0,.int .i64 0] 26 (0,0)) (by (with_reducible repeat (first | refine QI ?_ _ | refine QK ?_ | refine QJ ?_ _)); exact BK178.out)) : gb178 ≠ gb194)); have n8_ := QS ((by rw [hg]; exact Nat.ne_of_gt (blk_lt (g := gb178) (o := .cells #[.int .i64 0,.int .i64 0,.bool false,.bool false,.slice none 0 0,.slice none 0 0,.int .i64 0,.int .i64 0] 26 (0,0)) (by (with_reducible repeat (first | refine QI ?_ _ | refine QK ?_ | refine QJ ?_ _)); exact BK178.out)) : gb194 ≠ gb178)); have n9_ := QS ((by rw [hg]; exact Nat.ne_of_lt (IsS80.lt (show IsS80 w0 _ g s0_0 t192 t193 from by repeat (first | (with_reducible first | exact HI0.out | apply IsS80.alloc | apply IsS80.drewN | apply IsS80.drew | apply IsS80.set_1 | apply IsS80.set_2 | refine IsS80.far ?_ NB0_178.out _) | exact HI0.out))) : g ≠ gb194)); have n10_ := QS ((by rw [hg]; exact Nat.ne_of_gt (IsS80.lt (show IsS80 w0 _ g s0_0 t192 t193 from by repeat (first | (with_reducible first | exact HI0.out | apply IsS80.alloc | apply IsS80.drewN | apply IsS80.drew | apply IsS80.set_1 | apply IsS80.set_2 | refine IsS80.far ?_ NB0_178.out _) | exact HI0.out))) : gb194 ≠ g)); clear HI0; clear BK178; clear HK; clear HB; revert n0_ n1_ n2_ n3_ n4_ n5_ n6_ n7_ n8_ n9_ n10_; intro HI0 BK178 HK HB BK194 GW194 GE194 NB178_194 NB194_178 NB0_194 NB194_0; clear hb hbox hg; have hnb16 := NB194_178.out; have hnc16 := NB178_194.out; have hnb17 := NB194_0.out; have hnc17 := NB0_194.out; have hcz18 := fun i => blk_cell BK194.out i; have hfz18 := fun i => blk_frozen BK194.out i) | ((with_reducible refine QL (f := 80) rfl ?_); refine goesL_ (some 20) rfl rfl Tryd.func80 (by kernel_rfl) rfl #[.pointer (some ⟨g,0,none⟩),.int .i64 2] rfl (by (try simp only [List.map_toArray,List.map_cons,List.map_nil]); first | done | rfl | (simp only [List.length_drop,List.length_take]; rfl)) ?_; (with_reducible refine (spec_l1Once.calls g s0_0 t192 t193 2 t195 t196 t197 w0 _ ?side1 ?side2 A7.out).mono ?_); (case side1 => repeat (first | (with_reducible first | exact HI0.out | apply IsS80.alloc | apply IsS80.drewN | apply IsS80.drew | apply IsS80.set_1 | apply IsS80.set_2 | refine IsS80.far ?_ NB0_178.out _ | refine IsS80.far ?_ NB0_194.out _) | exact HI0.out)); (case side2 => repeat (first | (with_reducible first | exact HB.out | apply QC | apply QB | apply QD | refine QG ?_ (IsS80.ge HI0.out) | refine QG ?_ GE178.out | refine QG ?_ GE194.out) | exact HB.out)); rintro e w19 ⟨rfl,hi,hb,hk⟩; refine ⟨_,rfl,?_⟩; have n0_ := QS (KeepBut.blk hk (g' := gb178) (o := .cells #[.int .i64 0,.int .i64 0,.bool false,.bool false,.slice none 0 0,.slice none 0 0,.int .i64 0,.int .i64 0] 26 (0,0)) (by (with_reducible repeat (first | refine QI ?_ _ | refine QK ?_ | refine QJ ?_ _)); refine blk_far ?_ NB178_194.out _; (with_reducible repeat (first | refine QI ?_ _ | refine QK ?_ | refine QJ ?_ _)); refine blk_far ?_ NB178_194.out _; (with_reducible repeat (first | refine QI ?_ _ | refine QK ?_ | refine QJ ?_ _)); refine blk_far ?_ NB178_194.out _; (with_reducible repeat (first | refine QI ?_ _ | refine QK ?_ | refine QJ ?_ _)); refine blk_far ?_ NB178_194.out _; (with_reducible repeat (first | refine QI ?_ _ | refine QK ?_ | refine QJ ?_ _)); refine blk_far ?_ NB178_194.out _; (with_reducible repeat (first | refine QI ?_ _ | refine QK ?_ | refine QJ ?_ _)); refine blk_far ?_ NB178_194.out _; (with_reducible repeat (first | refine QI ?_ _ | refine QK ?_ | refine QJ ?_ _)); refine blk_far ?_ NB178_194.out _; (with_reducible repeat (first | refine QI ?_ _ | refine QK ?_ | refine QJ ?_ _)); refine blk_far ?_ NB178_194.out _; (with_reducible repeat (first | refine QI ?_ _ | refine QK ?_ | refine QJ ?_ _)); exact BK178.out) NB178_0.out (by simp)); have n1_ := QS (KeepBut.blk hk (g' := gb194) (o := .cells #[.int .i64 (wrap64 (2 + t179)),.int .i64 (wrap64 (1 + t182)),.bool t185,.bool true,.slice none 0 0,.slice none 0 0,.int .i64 (wrap64 (1 + t188)),.int .i64 (wrap64 (20 + t191))] 26 (0,0)) (by (with_reducible repeat (first | refine QI ?_ _ | refine QK ?_ | refine QJ ?_ _)); refine blk_put (cs := #[.int .i64 (wrap64 (2 + t179)),.int .i64 (wrap64 (1 + t182)),.bool t185,.bool true,.slice none 0 0,.slice none 0 0,.int .i64 (wrap64 (1 + t188)),.int .i64 0]) ?_ 7 _ rfl; (with_reducible repeat (first | refine QI ?_ _ | refine QK ?_ | refine QJ ?_ _)); refine blk_put (cs := #[.int .i64 (wrap64 (2 + t179)),.int .i64 (wrap64 (1 + t182)),.bool t185,.bool true,.slice none 0 0,.slice none 0 0,.int .i64 0,.int .i64 0]) ?_ 6 _ rfl; (with_reducible repeat (first | refine QI ?_ _ | refine QK ?_ | refine QJ ?_ _)); refine blk_put (cs := #[.int .i64 (wrap64 (2 + t179)),.int .i64 (wrap64 (1 + t182)),.bool t185,.bool true,.slice none 0 0,.slice none 0 0,.int .i64 0,.int .i64 0]) ?_ 5 _ rfl; (with_reducible repeat (first | refine QI ?_ _ | refine QK ?_ | refine QJ ?_ _)); refine blk_put (cs := #[.int .i64 (wrap64 (2 + t179)),.int .i64 (wrap64 (1 + t182)),.bool t185,.bool true,.slice none 0 0,.slice none 0 0,.int .i64 0,.int .i64 0]) ?_ 4 _ rfl; (with_reducible repeat (first | refine QI ?_ _ | refine QK ?_ | refine QJ ?_ _)); refine blk_put (cs := #[.int .i64 (wrap64 (2 + t179)),.int .i64 (wrap64 (1 + t182)),.bool t185,.bool false,.slice none 0 0,.slice none 0 0,.int .i64 0,.int .i64 0]) ?_ 3 _ rfl; (with_reducible repeat (first | refine QI ?_ _ | refine QK ?_ | refine QJ ?_ _)); refine blk_put (cs := #[.int .i64 (wrap64 (2 + t179)),.int .i64 (wrap64 (1 + t182)),.bool false,.bool false,.slice none 0 0,.slice none 0 0,.int .i64 0,.int .i64 0]) ?_ 2 _ rfl; (with_reducible repeat (first | refine QI ?_ _ | refine QK ?_ | refine QJ ?_ _)); refine blk_put (cs := #[.int .i64 (wrap64 (2 + t179)),.int .i64 0,.bool false,.bool false,.slice none 0 0,.slice none 0 0,.int .i64 0,.int .i64 0]) ?_ 1 _ rfl; (with_reducible repeat (first | refine QI ?_ _ | refine QK ?_ | refine QJ ?_ _)); refine blk_put (cs := #[.int .i64 0,.int .i64 0,.bool false,.bool false,.slice none 0 0,.slice none 0 0,.int .i64 0,.int .i64 0]) ?_ 0 _ rfl; (with_reducible repeat (first | refine QI ?_ _ | refine QK ?_ | refine QJ ?_ _)); exact BK194.out) NB194_0.out (by simp)); have n2_ := QS (KeepBut.trans (by repeat (first | (with_reducible first | exact HK.out | apply KeepBut.set_ | apply QE | apply QH | apply QF | refine QP ?_ GW178.out _ | refine QP ?_ GW194.out _) | exact HK.out)) hk (.inl rfl)); have n3_ := QS (hb); have n4_ := QS (hi); clear BK178; clear BK194; clear HK; clear HB; clear HI0; revert n0_ n1_ n2_ n3_ n4_; intro BK178 BK194 HK HB HI0; (try clear hb); (try clear hk); (try clear hi)))
 (try simp only [Act.put,List.setIfInBounds_toArray,List.set_cons_zero,List.set_cons_succ])
 go_cut [] (fun wc => ∃ (kq : Nat) (x1001_7 : Int) (x1002_7 : Int) (x195004_7 : List Int) (u195004 : Value),Aside0 (spec_l22Draw.j0 kq s0_0 x1001_7 x1002_7 (wrap64 (2 + t179)) (wrap64 (1 + t182)) t185 true x195004_7 (wrap64 (1 + t188)) (wrap64 (20 + t191)) = some (r1,r2,r3,r4,r5,r6,r7,r8,r9,r10)) ∧ Aside0 (kq ≤ k) ∧ Aside0 (Kd.R (Kd.int .i64) 3 wc w.heap.size (fun _ => True) u195004 x195004_7) ∧ Aside0 (wc.heap[gb178]? = some (.cells #[.int .i64 0,.int .i64 0,.bool false,.bool false,(.slice none 0 0),(.slice none 0 0),.int .i64 0,.int .i64 0] 26 (0,0))) ∧ Aside0 (wc.heap[gb194]? = some (.cells #[.int .i64 (wrap64 (2 + t179)),.int .i64 (wrap64 (1 + t182)),.bool t185,.bool true,u195004,(.slice none 0 0),.int .i64 (wrap64 (1 + t188)),.int .i64 (wrap64 (20 + t191))] 26 (0,0))) ∧ Aside0 (IsS80 w0 wc g s0_0 x1001_7 x1002_7) ∧ Aside0 (KeepBut w wc g none) ∧ Aside0 (Below w0.heap.size w0 wc))
 case first =>
  have H := HC8.out
  clear HC8
  by_cases c20 : t195 = true
  ·subst c20
   have H1 : ((spec_l8Draw.f k s0_0 t196 t197 1).bind fun bt198 => (spec_l22Draw.j0 k s0_0 bt198.2.1 bt198.2.2 (wrap64 (2 + t179)) (wrap64 (1 + t182)) t185 true bt198.1 (wrap64 (1 + t188)) (wrap64 (20 + t191)))) = some (r1,r2,r3,r4,r5,r6,r7,r8,r9,r10) := by rw [if_pos rfl] at H; exact H
   clear H
   have H := H1
   clear H1
   replace H := QT.mp H
   obtain ⟨⟨t198,t201,t202⟩,A210,H⟩ := H
   replace H : (spec_l22Draw.j0 k s0_0 t201 t202 (wrap64 (2 + t179)) (wrap64 (1 + t182)) t185 true t198 (wrap64 (1 + t188)) (wrap64 (20 + t191))) = some (r1,r2,r3,r4,r5,r6,r7,r8,r9,r10) := H
   have A21 := QS A210
   clear A210
   have H' := QS H
   clear H
   go_wp2_with (first | ((with_reducible refine QL (f := 81) rfl ?_); refine goesL_ (some 22) rfl rfl Tryd.func81 (by kernel_rfl) rfl #[.pointer (some ⟨g,0,none⟩),.int .i64 1] rfl (by (try simp only [List.map_toArray,List.map_cons,List.map_nil]); first | done | rfl | (simp only [List.length_drop,List.length_take]; rfl)) ?_; (with_reducible refine (spec_l8Draw.calls k g s0_0 t196 t197 1 t198 t201 t202 w0 _ ?side1 ?side2 A21.out).mono ?_); (case side1 => repeat (first | (with_reducible first | exact HI0.out | apply IsS80.alloc | apply IsS80.drewN | apply IsS80.drew | apply IsS80.set_1 | apply IsS80.set_2 | refine IsS80.far ?_ NB0_178.out _ | refine IsS80.far ?_ NB0_194.out _) | exact HI0.out)); (case side2 => repeat (first | (with_reducible first | exact HB.out | apply QC | apply QB | apply QD | refine QG ?_ (IsS80.ge HI0.out) | refine QG ?_ GE178.out | refine QG ?_ GE194.out) | exact HB.out)); rintro e w22 ⟨v199,rfl,ho0,hi,hb,hk⟩; refine ⟨_,rfl,?_⟩; have n0_ := QS (KeepBut.blk hk (g' := gb178) (o := .cells #[.int .i64 0,.int .i64 0,.bool false,.bool false,.slice none 0 0,.slice none 0 0,.int .i64 0,.int .i64 0] 26 (0,0)) (by (with_reducible repeat (first | refine QI ?_ _ | refine QK ?_ | refine QJ ?_ _)); exact BK178.out) NB178_0.out (by simp)); have n1_ := QS (KeepBut.blk hk (g' := gb194) (o := .cells #[.int .i64 (wrap64 (2 + t179)),.int .i64 (wrap64 (1 + t182)),.bool t185,.bool true,.slice none 0 0,.slice none 0 0,.int .i64 (wrap64 (1 + t188)),.int .i64 (wrap64 (20 + t191))] 26 (0,0)) (by (with_reducible repeat (first | refine QI ?_ _ | refine QK ?_ | refine QJ ?_ _)); exact BK194.out) NB194_0.out (by simp)); have n2_ := QS (Kd.R_lower ho0 (keep_size (w := w) (g := g) (row := none) (by repeat (first | (with_reducible first | exact HK.out | apply KeepBut.set_ | apply QE | apply QH | apply QF | refine QP ?_ GW178.out _ | refine QP ?_ GW194.out _) | exact HK.out)))); have n3_ := QS (KeepBut.trans (by repeat (first | (with_reducible first | exact HK.out | apply KeepBut.set_ | apply QE | apply QH | apply QF | refine QP ?_ GW178.out _ | refine QP ?_ GW194.out _) | exact HK.out)) hk (.inl rfl)); have n4_ := QS (hb); have n5_ := QS (hi); clear BK178; clear BK194; clear HK; clear HB; clear HI0; revert n0_ n1_ n2_ n3_ n4_ n5_; intro BK178 BK194 HO200 HK HB HI0; (try clear hb); (try clear hk); (try clear hi); (try clear ho0); obtain ⟨Ao23,co23,eo23⟩ := Kd.R_slice HO200.out; subst eo23; have hnb24 := NB194_178.out; have hnc24 := NB178_194.out; have hnb25 := NB194_0.out; have hnc25 := NB0_194.out; have hcz26 := fun i => blk_cell BK194.out i; have hfz26 := fun i => blk_frozen BK194.out i))
   go_meet
   case rel => exact ⟨_,(t201),(t202),(t198),(.slice Ao23 t198.length co23),H',⟨by first | omega | exact Nat.le_refl _⟩,⟨by (with_reducible repeat (first | apply QM | apply QN | apply QO)); exact QR (far_r (Kd.R_types HO200.out BK194.out (by decide))) (fun _ hk => trivial)⟩,⟨by (with_reducible repeat (first | refine QI ?_ _ | refine QK ?_ | refine QJ ?_ _)); refine blk_far ?_ NB178_194.out _; (with_reducible repeat (first | refine QI ?_ _ | refine QK ?_ | refine QJ ?_ _)); exact BK178.out⟩,⟨by (with_reducible repeat (first | refine QI ?_ _ | refine QK ?_ | refine QJ ?_ _)); refine blk_put (cs := #[.int .i64 (wrap64 (2 + t179)),.int .i64 (wrap64 (1 + t182)),.bool t185,.bool true,.slice none 0 0,.slice none 0 0,.int .i64 (wrap64 (1 + t188)),.int .i64 (wrap64 (20 + t191))]) ?_ 4 _ rfl; (with_reducible repeat (first | refine QI ?_ _ | refine QK ?_ | refine QJ ?_ _)); exact BK194.out⟩,⟨by repeat (first | (with_reducible first | exact HI0.out | apply IsS80.alloc | apply IsS80.drewN | apply IsS80.drew | apply IsS80.set_1 | apply IsS80.set_2 | refine IsS80.far ?_ NB0_178.out _ | refine IsS80.far ?_ NB0_194.out _) | exact HI0.out)⟩,⟨by repeat (first | (with_reducible first | exact HK.out | apply KeepBut.set_ | apply QE | apply QH | apply QF | refine QP ?_ GW178.out _ | refine QP ?_ GW194.out _) | exact HK.out)⟩,⟨by repeat (first | (with_reducible first | exact HB.out | apply QC | apply QB | apply QD | refine QG ?_ (IsS80.ge HI0.out) | refine QG ?_ GE178.out | refine QG ?_ GE194.out) | exact HB.out)⟩⟩
  ·replace c20 := Bool.eq_false_iff.mpr c20
   subst c20
   have H1 : (spec_l22Draw.j0 k s0_0 t196 t197 (wrap64 (2 + t179)) (wrap64 (1 + t182)) t185 true ([] : List Int) (wrap64 (1 + t188)) (wrap64 (20 + t191))) = some (r1,r2,r3,r4,r5,r6,r7,r8,r9,r10) := by rw [if_neg (show ¬ (false = true) by decide)] at H; exact H
   clear H
   have H := H1
   clear H1
   have H' := QS H
   clear H
   go_wp2
   go_meet
   case rel => exact ⟨_,(t196),(t197),(([] : List Int)),(.slice none 0 0),H',⟨by first | omega | exact Nat.le_refl _⟩,⟨by first | exact Kd.R_nil _ _ _ _ _ | exact Kd.N_nil _ _ _ _ _ | exact Kd.V_nil _ _ _ _ _ | exact Kd.Q_nil _ _ _ _ _ | exact Kd.S_nil _ _ _ _ _⟩,⟨by (with_reducible repeat (first | refine QI ?_ _ | refine QK ?_ | refine QJ ?_ _)); exact BK178.out⟩,⟨by (with_reducible repeat (first | refine QI ?_ _ | refine QK ?_ | refine QJ ?_ _)); exact BK194.out⟩,⟨by repeat (first | (with_reducible first | exact HI0.out | apply IsS80.alloc | apply IsS80.drewN | apply IsS80.drew | apply IsS80.set_1 | apply IsS80.set_2 | refine IsS80.far ?_ NB0_178.out _ | refine IsS80.far ?_ NB0_194.out _) | exact HI0.out)⟩,⟨by repeat (first | (with_reducible first | exact HK.out | apply KeepBut.set_ | apply QE | apply QH | apply QF | refine QP ?_ GW178.out _ | refine QP ?_ GW194.out _) | exact HK.out)⟩,⟨by repeat (first | (with_reducible first | exact HB.out | apply QC | apply QB | apply QD | refine QG ?_ (IsS80.ge HI0.out) | refine QG ?_ GE178.out | refine QG ?_ GE194.out) | exact HB.out)⟩⟩
 case rest =>
  clear HC8
  try clear c20
  try clear hcz18
  try clear hcz26
  try clear hfz18
  try clear hfz26
  obtain ⟨kq,x1001_7,x1002_7,x195004_7,u195004,HA,HJ7,HO_195004,BK178,BK194,HI0,HK,HB⟩ := hcut
  cases kq with
  | zero => exact absurd HA.out (by simp [spec_l22Draw.j0])
  | succ kj7 =>
   have H := HA.out
   clear HA
   simp only [spec_l22Draw.j0] at H
   replace H := QT.mp H
   obtain ⟨⟨t203,t204,t205⟩,A270,H⟩ := H
   replace H : (if t203 = true then ((spec_l8Draw.f kj7 s0_0 t204 t205 1).bind fun bt206 => (some ((wrap64 (2 + t179)),(wrap64 (1 + t182)),t185,true,x195004_7,bt206.1,(wrap64 (1 + t188)),(wrap64 (20 + t191)),bt206.2.1,bt206.2.2))) else (some ((wrap64 (2 + t179)),(wrap64 (1 + t182)),t185,true,x195004_7,([] : List Int),(wrap64 (1 + t188)),(wrap64 (20 + t191)),t204,t205))) = some (r1,r2,r3,r4,r5,r6,r7,r8,r9,r10) := H
   have A27 := QS A270
   clear A270
   by_cases c28 : t203 = true
   ·subst c28
    have H1 : ((spec_l8Draw.f kj7 s0_0 t204 t205 1).bind fun bt206 => (some ((wrap64 (2 + t179)),(wrap64 (1 + t182)),t185,true,x195004_7,bt206.1,(wrap64 (1 + t188)),(wrap64 (20 + t191)),bt206.2.1,bt206.2.2))) = some (r1,r2,r3,r4,r5,r6,r7,r8,r9,r10) := by rw [if_pos rfl] at H; exact H
    clear H
    have H := H1
    clear H1
    replace H := QT.mp H
    obtain ⟨⟨t206,t209,t210⟩,A290,H⟩ := H
    replace H : (some ((wrap64 (2 + t179)),(wrap64 (1 + t182)),t185,true,x195004_7,t206,(wrap64 (1 + t188)),(wrap64 (20 + t191)),t209,t210)) = some (r1,r2,r3,r4,r5,r6,r7,r8,r9,r10) := H
    have A29 := QS A290
    clear A290
    simp only [Option.some.injEq,Prod.mk.injEq] at H
    obtain ⟨rfl,rfl,rfl,rfl,rfl,rfl,rfl,rfl,rfl,rfl⟩ := H
    go_wp2_with (first | ((with_reducible refine QL (f := 80) rfl ?_); refine goesL_ (some 25) rfl rfl Tryd.func80 (by kernel_rfl) rfl #[.pointer (some ⟨g,0,none⟩),.int .i64 2] rfl (by (try simp only [List.map_toArray,List.map_cons,List.map_nil]); first | done | rfl | (simp only [List.length_drop,List.length_take]; rfl)) ?_; (with_reducible refine (spec_l1Once.calls g s0_0 x1001_7 x1002_7 2 true t204 t205 w0 _ ?side1 ?side2 A27.out).mono ?_); (case side1 => repeat (first | (with_reducible first | exact HI0.out | apply IsS80.alloc | apply IsS80.drewN | apply IsS80.drew | apply IsS80.set_1 | apply IsS80.set_2 | refine IsS80.far ?_ NB0_178.out _ | refine IsS80.far ?_ NB0_194.out _) | exact HI0.out)); (case side2 => repeat (first | (with_reducible first | exact HB.out | apply QC | apply QB | apply QD | refine QG ?_ (IsS80.ge HI0.out) | refine QG ?_ GE178.out | refine QG ?_ GE194.out) | exact HB.out)); rintro e w30 ⟨rfl,hi,hb,hk⟩; refine ⟨_,rfl,?_⟩; have n0_ := QS (QR (Kd.R_keep (IsS80.apart (show IsS80 w0 _ g s0_0 x1001_7 x1002_7 from by repeat (first | (with_reducible first | exact HI0.out | apply IsS80.alloc | apply IsS80.drewN | apply IsS80.drew | apply IsS80.set_1 | apply IsS80.set_2 | refine IsS80.far ?_ NB0_178.out _ | refine IsS80.far ?_ NB0_194.out _) | exact HI0.out)) (by (with_reducible repeat (first | apply QM | apply QN | apply QO)); exact HO_195004.out) (by decide)) hk (fun _ h => h.2)) (fun _ h => h.1)); have n1_ := QS (KeepBut.blk hk (g' := gb178) (o := .cells #[.int .i64 0,.int .i64 0,.bool false,.bool false,.slice none 0 0,.slice none 0 0,.int .i64 0,.int .i64 0] 26 (0,0)) (by (with_reducible repeat (first | refine QI ?_ _ | refine QK ?_ | refine QJ ?_ _)); exact BK178.out) NB178_0.out (by simp)); have n2_ := QS (KeepBut.blk hk (g' := gb194) (o := .cells #[.int .i64 (wrap64 (2 + t179)),.int .i64 (wrap64 (1 + t182)),.bool t185,.bool true,u195004,.slice none 0 0,.int .i64 (wrap64 (1 + t188)),.int .i64 (wrap64 (20 + t191))] 26 (0,0)) (by (with_reducible repeat (first | refine QI ?_ _ | refine QK ?_ | refine QJ ?_ _)); exact BK194.out) NB194_0.out (by simp)); have n3_ := QS (KeepBut.trans (by repeat (first | (with_reducible first | exact HK.out | apply KeepBut.set_ | apply QE | apply QH | apply QF | refine QP ?_ GW178.out _ | refine QP ?_ GW194.out _) | exact HK.out)) hk (.inl rfl)); have n4_ := QS (hb); have n5_ := QS (hi); clear HO_195004; clear BK178; clear BK194; clear HK; clear HB; clear HI0; revert n0_ n1_ n2_ n3_ n4_ n5_; intro HO_195004 BK178 BK194 HK HB HI0; (try clear hb); (try clear hk); (try clear hi)) | ((with_reducible refine QL (f := 81) rfl ?_); refine goesL_ (some 27) rfl rfl Tryd.func81 (by kernel_rfl) rfl #[.pointer (some ⟨g,0,none⟩),.int .i64 1] rfl (by (try simp only [List.map_toArray,List.map_cons,List.map_nil]); first | done | rfl | (simp only [List.length_drop,List.length_take]; rfl)) ?_; (with_reducible refine (spec_l8Draw.calls kj7 g s0_0 t204 t205 1 t206 t209 t210 w0 _ ?side1 ?side2 A29.out).mono ?_); (case side1 => repeat (first | (with_reducible first | exact HI0.out | apply IsS80.alloc | apply IsS80.drewN | apply IsS80.drew | apply IsS80.set_1 | apply IsS80.set_2 | refine IsS80.far ?_ NB0_178.out _ | refine IsS80.far ?_ NB0_194.out _) | exact HI0.out)); (case side2 => repeat (first | (with_reducible first | exact HB.out | apply QC | apply QB | apply QD | refine QG ?_ (IsS80.ge HI0.out) | refine QG ?_ GE178.out | refine QG ?_ GE194.out) | exact HB.out)); rintro e w31 ⟨v207,rfl,ho0,hi,hb,hk⟩; refine ⟨_,rfl,?_⟩; have n0_ := QS (QR (Kd.R_told (Kd.R_oldK (IsS80.apart (show IsS80 w0 _ g s0_0 t204 t205 from by repeat (first | (with_reducible first | exact HI0.out | apply IsS80.alloc | apply IsS80.drewN | apply IsS80.drew | apply IsS80.set_1 | apply IsS80.set_2 | refine IsS80.far ?_ NB0_178.out _ | refine IsS80.far ?_ NB0_194.out _) | exact HI0.out)) (by (with_reducible repeat (first | apply QM | apply QN | apply QO)); exact HO_195004.out) (by decide)) hk) (Kd.R_base ho0)) (fun _ h_ => h_.1)); have n1_ := QS (KeepBut.blk hk (g' := gb178) (o := .cells #[.int .i64 0,.int .i64 0,.bool false,.bool false,.slice none 0 0,.slice none 0 0,.int .i64 0,.int .i64 0] 26 (0,0)) (by (with_reducible repeat (first | refine QI ?_ _ | refine QK ?_ | refine QJ ?_ _)); exact BK178.out) NB178_0.out (by simp)); have n2_ := QS (KeepBut.blk hk (g' := gb194) (o := .cells #[.int .i64 (wrap64 (2 + t179)),.int .i64 (wrap64 (1 + t182)),.bool t185,.bool true,u195004,.slice none 0 0,.int .i64 (wrap64 (1 + t188)),.int .i64 (wrap64 (20 + t191))] 26 (0,0)) (by (with_reducible repeat (first | refine QI ?_ _ | refine QK ?_ | refine QJ ?_ _)); exact BK194.out) NB194_0.out (by simp)); have n3_ := QS (Kd.R_lower (Kd.R_new' ho0 (Kd.R_lt (by (with_reducible repeat (first | apply QM | apply QN | apply QO)); exact HO_195004.out))) (keep_size (w := w) (g := g) (row := none) (by repeat (first | (with_reducible first | exact HK.out | apply KeepBut.set_ | apply QE | apply QH | apply QF | refine QP ?_ GW178.out _ | refine QP ?_ GW194.out _) | exact HK.out)))); have n4_ := QS (KeepBut.trans (by repeat (first | (with_reducible first | exact HK.out | apply KeepBut.set_ | apply QE | apply QH | apply QF | refine QP ?_ GW178.out _ | refine QP ?_ GW194.out _) | exact HK.out)) hk (.inl rfl)); have n5_ := QS (hb); have n6_ := QS (hi); clear HO_195004; clear BK178; clear BK194; clear HK; clear HB; clear HI0; revert n0_ n1_ n2_ n3_ n4_ n5_ n6_; intro HO_195004 BK178 BK194 HO208 HK HB HI0; (try clear hb); (try clear hk); (try clear hi); (try clear ho0); obtain ⟨Ao32,co32,eo32⟩ := Kd.R_slice HO208.out; subst eo32; have hnb33 := NB194_178.out; have hnc33 := NB178_194.out; have hnb34 := NB194_0.out; have hnc34 := NB0_194.out; have hcz35 := fun i => blk_cell BK194.out i; have hfz35 := fun i => blk_frozen BK194.out i; have hnb36 := NB178_0.out; have hnc36 := NB0_178.out; have hcz37 := fun i => blk_cell BK178.out i; have hfz37 := fun i => blk_frozen BK178.out i; obtain ⟨Ao38,co38,eo38⟩ := Kd.R_slice HO_195004.out; subst eo38))
    refine bodyPost_ret (results_cell_row rfl _ _ gb178 26 #[.int .i64 (wrap64 (2 + t179)),.int .i64 (wrap64 (1 + t182)),.bool t185,.bool true,.slice Ao38 x195004_7.length co38,.slice Ao32 t206.length co32,.int .i64 (wrap64 (1 + t188)),.int .i64 (wrap64 (20 + t191))] (0,0) _ rfl (by (with_reducible repeat (first | refine QI ?_ _ | refine QK ?_ | refine QJ ?_ _)); refine blk_put (cs := #[.int .i64 (wrap64 (2 + t179)),.int .i64 (wrap64 (1 + t182)),.bool t185,.bool true,.slice Ao38 x195004_7.length co38,.slice Ao32 t206.length co32,.int .i64 (wrap64 (1 + t188)),.int .i64 0]) ?_ 7 _ rfl; (with_reducible repeat (first | refine QI ?_ _ | refine QK ?_ | refine QJ ?_ _)); refine blk_put (cs := #[.int .i64 (wrap64 (2 + t179)),.int .i64 (wrap64 (1 + t182)),.bool t185,.bool true,.slice Ao38 x195004_7.length co38,.slice Ao32 t206.length co32,.int .i64 0,.int .i64 0]) ?_ 6 _ rfl; (with_reducible repeat (first | refine QI ?_ _ | refine QK ?_ | refine QJ ?_ _)); refine blk_put (cs := #[.int .i64 (wrap64 (2 + t179)),.int .i64 (wrap64 (1 + t182)),.bool t185,.bool true,.slice Ao38 x195004_7.length co38,.slice none 0 0,.int .i64 0,.int .i64 0]) ?_ 5 _ rfl; (with_reducible repeat (first | refine QI ?_ _ | refine QK ?_ | refine QJ ?_ _)); refine blk_put (cs := #[.int .i64 (wrap64 (2 + t179)),.int .i64 (wrap64 (1 + t182)),.bool t185,.bool true,.slice none 0 0,.slice none 0 0,.int .i64 0,.int .i64 0]) ?_ 4 _ rfl; (with_reducible repeat (first | refine QI ?_ _ | refine QK ?_ | refine QJ ?_ _)); refine blk_put (cs := #[.int .i64 (wrap64 (2 + t179)),.int .i64 (wrap64 (1 + t182)),.bool t185,.bool false,.slice none 0 0,.slice none 0 0,.int .i64 0,.int .i64 0]) ?_ 3 _ rfl; (with_reducible repeat (first | refine QI ?_ _ | refine QK ?_ | refine QJ ?_ _)); refine blk_put (cs := #[.int .i64 (wrap64 (2 + t179)),.int .i64 (wrap64 (1 + t182)),.bool false,.bool false,.slice none 0 0,.slice none 0 0,.int .i64 0,.int .i64 0]) ?_ 2 _ rfl; (with_reducible repeat (first | refine QI ?_ _ | refine QK ?_ | refine QJ ?_ _)); refine blk_put (cs := #[.int .i64 (wrap64 (2 + t179)),.int .i64 0,.bool false,.bool false,.slice none 0 0,.slice none 0 0,.int .i64 0,.int .i64 0]) ?_ 1 _ rfl; (with_reducible repeat (first | refine QI ?_ _ | refine QK ?_ | refine QJ ?_ _)); refine blk_put (cs := #[.int .i64 0,.int .i64 0,.bool false,.bool false,.slice none 0 0,.slice none 0 0,.int .i64 0,.int .i64 0]) ?_ 0 _ rfl; (with_reducible repeat (first | refine QI ?_ _ | refine QK ?_ | refine QJ ?_ _)); refine blk_far ?_ NB178_194.out _; (with_reducible repeat (first | refine QI ?_ _ | refine QK ?_ | refine QJ ?_ _)); exact BK178.out) Tryd.underlying26 rfl (by kernel_rfl)) rfl ?_
    exact ⟨_,_,by first | rfl | (simp [errW_none,errW_some] <;> rfl) | (simp [*,errW_none,errW_some] <;> rfl),by (with_reducible repeat (first | apply QM | apply QN | apply QO)); exact QR (far_r (far_r (far_r (far_r (far_r (far_r (far_r (far_r (Kd.R_far (p := ⟨gb194,5,none⟩) (Kd.R_types (Kd.R_types HO_195004.out BK194.out (by decide)) BK178.out (by decide)) (fun _ hk => hk.1.2) (.slice Ao32 t206.length co32)))))))))) (fun _ hk => hk.1.1.2),by (with_reducible repeat (first | apply QM | apply QN | apply QO)); exact QR (far_r (far_r (far_r (far_r (far_r (far_r (far_r (far_r (Kd.R_far (p := ⟨gb194,5,none⟩) (Kd.R_types (Kd.R_types HO208.out BK194.out (by decide)) BK178.out (by decide)) (fun _ hk => hk.1.2) (.slice Ao32 t206.length co32)))))))))) (fun _ hk => hk.1.1.2),by repeat (first | (with_reducible first | exact HI0.out | apply IsS80.alloc | apply IsS80.drewN | apply IsS80.drew | apply IsS80.set_1 | apply IsS80.set_2 | refine IsS80.far ?_ NB0_178.out _ | refine IsS80.far ?_ NB0_194.out _) | exact HI0.out),by repeat (first | (with_reducible first | exact HB.out | apply QC | apply QB | apply QD | refine QG ?_ (IsS80.ge HI0.out) | refine QG ?_ GE178.out | refine QG ?_ GE194.out) | exact HB.out),by repeat (first | (with_reducible first | exact HK.out | apply KeepBut.set_ | apply QE | apply QH | apply QF | refine QP ?_ GW178.out _ | refine QP ?_ GW194.out _) | exact HK.out)⟩
   ·replace c28 := Bool.eq_false_iff.mpr c28
    subst c28
    have H1 : (some ((wrap64 (2 + t179)),(wrap64 (1 + t182)),t185,true,x195004_7,([] : List Int),(wrap64 (1 + t188)),(wrap64 (20 + t191)),t204,t205)) = some (r1,r2,r3,r4,r5,r6,r7,r8,r9,r10) := by rw [if_neg (show ¬ (false = true) by decide)] at H; exact H
    clear H
    have H := H1
    clear H1
    simp only [Option.some.injEq,Prod.mk.injEq] at H
    obtain ⟨rfl,rfl,rfl,rfl,rfl,rfl,rfl,rfl,rfl,rfl⟩ := H
    go_wp2_with (first | ((with_reducible refine QL (f := 80) rfl ?_); refine goesL_ (some 25) rfl rfl Tryd.func80 (by kernel_rfl) rfl #[.pointer (some ⟨g,0,none⟩),.int .i64 2] rfl (by (try simp only [List.map_toArray,List.map_cons,List.map_nil]); first | done | rfl | (simp only [List.length_drop,List.length_take]; rfl)) ?_; (with_reducible refine (spec_l1Once.calls g s0_0 x1001_7 x1002_7 2 false t204 t205 w0 _ ?side1 ?side2 A27.out).mono ?_); (case side1 => repeat (first | (with_reducible first | exact HI0.out | apply IsS80.alloc | apply IsS80.drewN | apply IsS80.drew | apply IsS80.set_1 | apply IsS80.set_2 | refine IsS80.far ?_ NB0_178.out _ | refine IsS80.far ?_ NB0_194.out _) | exact HI0.out)); (case side2 => repeat (first | (with_reducible first | exact HB.out | apply QC | apply QB | apply QD | refine QG ?_ (IsS80.ge HI0.out) | refine QG ?_ GE178.out | refine QG ?_ GE194.out) | exact HB.out)); rintro e w39 ⟨rfl,hi,hb,hk⟩; refine ⟨_,rfl,?_⟩; have n0_ := QS (QR (Kd.R_keep (IsS80.apart (show IsS80 w0 _ g s0_0 x1001_7 x1002_7 from by repeat (first | (with_reducible first | exact HI0.out | apply IsS80.alloc | apply IsS80.drewN | apply IsS80.drew | apply IsS80.set_1 | apply IsS80.set_2 | refine IsS80.far ?_ NB0_178.out _ | refine IsS80.far ?_ NB0_194.out _) | exact HI0.out)) (by (with_reducible repeat (first | apply QM | apply QN | apply QO)); exact HO_195004.out) (by decide)) hk (fun _ h => h.2)) (fun _ h => h.1)); have n1_ := QS (KeepBut.blk hk (g' := gb178) (o := .cells #[.int .i64 0,.int .i64 0,.bool false,.bool false,.slice none 0 0,.slice none 0 0,.int .i64 0,.int .i64 0] 26 (0,0)) (by (with_reducible repeat (first | refine QI ?_ _ | refine QK ?_ | refine QJ ?_ _)); exact BK178.out) NB178_0.out (by simp)); have n2_ := QS (KeepBut.blk hk (g' := gb194) (o := .cells #[.int .i64 (wrap64 (2 + t179)),.int .i64 (wrap64 (1 + t182)),.bool t185,.bool true,u195004,.slice none 0 0,.int .i64 (wrap64 (1 + t188)),.int .i64 (wrap64 (20 + t191))] 26 (0,0)) (by (with_reducible repeat (first | refine QI ?_ _ | refine QK ?_ | refine QJ ?_ _)); exact BK194.out) NB194_0.out (by simp)); have n3_ := QS (KeepBut.trans (by repeat (first | (with_reducible first | exact HK.out | apply KeepBut.set_ | apply QE | apply QH | apply QF | refine QP ?_ GW178.out _ | refine QP ?_ GW194.out _) | exact HK.out)) hk (.inl rfl)); have n4_ := QS (hb); have n5_ := QS (hi); clear HO_195004; clear BK178; clear BK194; clear HK; clear HB; clear HI0; revert n0_ n1_ n2_ n3_ n4_ n5_; intro HO_195004 BK178 BK194 HK HB HI0; (try clear hb); (try clear hk); (try clear hi); have hnb40 := NB194_178.out; have hnc40 := NB178_194.out; have hnb41 := NB194_0.out; have hnc41 := NB0_194.out; have hcz42 := fun i => blk_cell BK194.out i; have hfz42 := fun i => blk_frozen BK194.out i; have hnb43 := NB178_0.out; have hnc43 := NB0_178.out; have hcz44 := fun i => blk_cell BK178.out i; have hfz44 := fun i => blk_frozen BK178.out i; obtain ⟨Ao45,co45,eo45⟩ := Kd.R_slice HO_195004.out; subst eo45))
    refine bodyPost_ret (results_cell_row rfl _ _ gb178 26 #[.int .i64 (wrap64 (2 + t179)),.int .i64 (wrap64 (1 + t182)),.bool t185,.bool true,.slice Ao45 x195004_7.length co45,.slice none 0 0,.int .i64 (wrap64 (1 + t188)),.int .i64 (wrap64 (20 + t191))] (0,0) _ rfl (by (with_reducible repeat (first | refine QI ?_ _ | refine QK ?_ | refine QJ ?_ _)); refine blk_put (cs := #[.int .i64 (wrap64 (2 + t179)),.int .i64 (wrap64 (1 + t182)),.bool t185,.bool true,.slice Ao45 x195004_7.length co45,.slice none 0 0,.int .i64 (wrap64 (1 + t188)),.int .i64 0]) ?_ 7 _ rfl; (with_reducible repeat (first | refine QI ?_ _ | refine QK ?_ | refine QJ ?_ _)); refine blk_put (cs := #[.int .i64 (wrap64 (2 + t179)),.int .i64 (wrap64 (1 + t182)),.bool t185,.bool true,.slice Ao45 x195004_7.length co45,.slice none 0 0,.int .i64 0,.int .i64 0]) ?_ 6 _ rfl; (with_reducible repeat (first | refine QI ?_ _ | refine QK ?_ | refine QJ ?_ _)); refine blk_put (cs := #[.int .i64 (wrap64 (2 + t179)),.int .i64 (wrap64 (1 + t182)),.bool t185,.bool true,.slice Ao45 x195004_7.length co45,.slice none 0 0,.int .i64 0,.int .i64 0]) ?_ 5 _ rfl; (with_reducible repeat (first | refine QI ?_ _ | refine QK ?_ | refine QJ ?_ _)); refine blk_put (cs := #[.int .i64 (wrap64 (2 + t179)),.int .i64 (wrap64 (1 + t182)),.bool t185,.bool true,.slice none 0 0,.slice none 0 0,.int .i64 0,.int .i64 0]) ?_ 4 _ rfl; (with_reducible repeat (first | refine QI ?_ _ | refine QK ?_ | refine QJ ?_ _)); refine blk_put (cs := #[.int .i64 (wrap64 (2 + t179)),.int .i64 (wrap64 (1 + t182)),.bool t185,.bool false,.slice none 0 0,.slice none 0 0,.int .i64 0,.int .i64 0]) ?_ 3 _ rfl; (with_reducible repeat (first | refine QI ?_ _ | refine QK ?_ | refine QJ ?_ _)); refine blk_put (cs := #[.int .i64 (wrap64 (2 + t179)),.int .i64 (wrap64 (1 + t182)),.bool false,.bool false,.slice none 0 0,.slice none 0 0,.int .i64 0,.int .i64 0]) ?_ 2 _ rfl; (with_reducible repeat (first | refine QI ?_ _ | refine QK ?_ | refine QJ ?_ _)); refine blk_put (cs := #[.int .i64 (wrap64 (2 + t179)),.int .i64 0,.bool false,.bool false,.slice none 0 0,.slice none 0 0,.int .i64 0,.int .i64 0]) ?_ 1 _ rfl; (with_reducible repeat (first | refine QI ?_ _ | refine QK ?_ | refine QJ ?_ _)); refine blk_put (cs := #[.int .i64 0,.int .i64 0,.bool false,.bool false,.slice none 0 0,.slice none 0 0,.int .i64 0,.int .i64 0]) ?_ 0 _ rfl; (with_reducible repeat (first | refine QI ?_ _ | refine QK ?_ | refine QJ ?_ _)); exact BK178.out) Tryd.underlying26 rfl (by kernel_rfl)) rfl ?_
    exact ⟨_,_,by first | rfl | (simp [errW_none,errW_some] <;> rfl) | (simp [*,errW_none,errW_some] <;> rfl),by (with_reducible repeat (first | apply QM | apply QN | apply QO)); exact QR (far_r (far_r (far_r (far_r (far_r (far_r (far_r (far_r (Kd.R_types HO_195004.out BK178.out (by decide)))))))))) (fun _ hk => (by simp [Value.ownBlock])),by first | exact Kd.R_nil _ _ _ _ _ | exact Kd.N_nil _ _ _ _ _ | exact Kd.V_nil _ _ _ _ _ | exact Kd.Q_nil _ _ _ _ _ | exact Kd.S_nil _ _ _ _ _,by repeat (first | (with_reducible first | exact HI0.out | apply IsS80.alloc | apply IsS80.drewN | apply IsS80.drew | apply IsS80.set_1 | apply IsS80.set_2 | refine IsS80.far ?_ NB0_178.out _ | refine IsS80.far ?_ NB0_194.out _) | exact HI0.out),by repeat (first | (with_reducible first | exact HB.out | apply QC | apply QB | apply QD | refine QG ?_ (IsS80.ge HI0.out) | refine QG ?_ GE178.out | refine QG ?_ GE194.out) | exact HB.out),by repeat (first | (with_reducible first | exact HK.out | apply KeepBut.set_ | apply QE | apply QH | apply QF | refine QP ?_ GW178.out _ | refine QP ?_ GW194.out _) | exact HK.out)⟩

/-! ### spec_l8Any: function 63 -/
def spec_l8Any.f (k : Nat) (s0_0 : List Int) (s0_1 : Int) (s0_2 : Int) : Option (List Int × Int × Int) := (spec_l8Draw.f k s0_0 s0_1 s0_2 2).bind fun bt211 => ((spec_l1Below.f s0_0 bt211.2.1 bt211.2.2 10).bind fun bt216 => (if bt216.1 = 0 then ((spec_l1Below.f s0_0 bt216.2.1 bt216.2.2 (bt211.1.length : Int)).bind fun bt219 => ((spec_l1Int.f s0_0 bt219.2.1 bt219.2.2 (([104, 99, 213, 313, 401, (-4), (-2), 9223372036854775807] : List Int))).bind fun bt225 => (if 0 ≤ bt219.1 then (if bt219.1 < (bt211.1.length : Int) then (some ((bt211.1.set (bt219.1 : Int).toNat bt225.1), bt225.2.1, bt225.2.2)) else (none)) else (none)))) else (if bt216.1 = 1 then (if 1 ≤ (bt211.1.length : Int) then (some ((bt211.1.drop (1 : Int).toNat), bt216.2.1, bt216.2.2)) else (none)) else (some (bt211.1, bt216.2.1, bt216.2.2)))))
theorem spec_l8Any.mono : ∀ a0 a1 a2 k, LeO (spec_l8Any.f k a0 a1 a2) (spec_l8Any.f (k + 1) a0 a1 a2) := by
 intro a0 a1 a2 k
 unfold spec_l8Any.f
 repeat' first
   | (with_reducible exact spec_l8Draw.mono _ _ _ _ _)
   | (with_reducible exact LeO.refl _)
   | (with_reducible exact LeO.none _)
   | (with_reducible refine LeO.ite ?_ ?_)
   | (with_reducible refine LeO.bind ?_ (fun _ => ?_))
   | exact spec_l8Draw.mono _ _ _ _ _
   | exact LeO.none _
   | refine LeO.ite ?_ ?_
   | refine LeO.bind ?_ (fun _ => ?_)
set_option maxHeartbeats 8000000 in
set_option maxRecDepth 100000 in
theorem spec_l8Any.calls (k : Nat) (g : Nat) (s0_0 : List Int) (s0_1 : Int) (s0_2 : Int) (r1 : List Int) (r2 : Int) (r3 : Int) (w0 w : World) (hI : IsS80 w0 w g s0_0 s0_1 s0_2) (hB : Below w0.heap.size w0 w) (h : spec_l8Any.f k s0_0 s0_1 s0_2 = some (r1, r2, r3)) :
  Calls Tryd.prog 63 #[.pointer (some ⟨g,0,none⟩)] w fun e w' => ∃ v0_ : Value,e = .returned (v0_) ∧ Kd.Q (Kd.int .i64) 3 w' w.heap.size (fun _ => True) v0_ r1 ∧ IsS80 w0 w' g s0_0 r2 r3 ∧ Below w0.heap.size w0 w' ∧ KeepBut w w' g none := by
 have HI0 := QS hI
 have HK := QS (KeepBut.refl w g none)
 have HL := QS hB.size
 clear hI
 have HW0 := QS hB.size
 have HB := QS hB
 clear hB
 have H : ((spec_l8Draw.f k s0_0 s0_1 s0_2 2).bind fun bt211 => ((spec_l1Below.f s0_0 bt211.2.1 bt211.2.2 10).bind fun bt216 => (if bt216.1 = 0 then ((spec_l1Below.f s0_0 bt216.2.1 bt216.2.2 (bt211.1.length : Int)).bind fun bt219 => ((spec_l1Int.f s0_0 bt219.2.1 bt219.2.2 (([104,99,213,313,401,(-4),(-2),9223372036854775807] : List Int))).bind fun bt225 => (if 0 ≤ bt219.1 then (if bt219.1 < (bt211.1.length : Int) then (some ((bt211.1.set (bt219.1 : Int).toNat bt225.1),bt225.2.1,bt225.2.2)) else (none)) else (none)))) else (if bt216.1 = 1 then (if 1 ≤ (bt211.1.length : Int) then (some ((bt211.1.drop (1 : Int).toNat),bt216.2.1,bt216.2.2)) else (none)) else (some (bt211.1,bt216.2.1,bt216.2.2)))))) = some (r1,r2,r3) := h
 clear h
 replace H := QT.mp H
 obtain ⟨⟨t211,t214,t215⟩,A20,H⟩ := H
 replace H : ((spec_l1Below.f s0_0 t214 t215 10).bind fun bt216 => (if bt216.1 = 0 then ((spec_l1Below.f s0_0 bt216.2.1 bt216.2.2 (t211.length : Int)).bind fun bt219 => ((spec_l1Int.f s0_0 bt219.2.1 bt219.2.2 (([104,99,213,313,401,(-4),(-2),9223372036854775807] : List Int))).bind fun bt225 => (if 0 ≤ bt219.1 then (if bt219.1 < (t211.length : Int) then (some ((t211.set (bt219.1 : Int).toNat bt225.1),bt225.2.1,bt225.2.2)) else (none)) else (none)))) else (if bt216.1 = 1 then (if 1 ≤ (t211.length : Int) then (some ((t211.drop (1 : Int).toNat),bt216.2.1,bt216.2.2)) else (none)) else (some (t211,bt216.2.1,bt216.2.2))))) = some (r1,r2,r3) := H
 have A2 := QS A20
 clear A20
 replace H := QT.mp H
 obtain ⟨⟨t216,t217,t218⟩,A30,H⟩ := H
 replace H : (if t216 = 0 then ((spec_l1Below.f s0_0 t217 t218 (t211.length : Int)).bind fun bt219 => ((spec_l1Int.f s0_0 bt219.2.1 bt219.2.2 (([104,99,213,313,401,(-4),(-2),9223372036854775807] : List Int))).bind fun bt225 => (if 0 ≤ bt219.1 then (if bt219.1 < (t211.length : Int) then (some ((t211.set (bt219.1 : Int).toNat bt225.1),bt225.2.1,bt225.2.2)) else (none)) else (none)))) else (if t216 = 1 then (if 1 ≤ (t211.length : Int) then (some ((t211.drop (1 : Int).toNat),t217,t218)) else (none)) else (some (t211,t217,t218)))) = some (r1,r2,r3) := H
 have A3 := QS A30
 clear A30
 by_cases c4 : t216 = 0
 ·rw [if_pos c4] at H
  have c4b0 : (t216 == 0) = true := beq_iff_eq.mpr c4
  have c4b1 : (t216 != 0) = false := bne_eq_false_iff_eq.mpr c4
  clear c4
  replace H := QT.mp H
  obtain ⟨⟨t219,t220,t221⟩,A50,H⟩ := H
  replace H : ((spec_l1Int.f s0_0 t220 t221 (([104,99,213,313,401,(-4),(-2),9223372036854775807] : List Int))).bind fun bt225 => (if 0 ≤ t219 then (if t219 < (t211.length : Int) then (some ((t211.set (t219 : Int).toNat bt225.1),bt225.2.1,bt225.2.2)) else (none)) else (none))) = some (r1,r2,r3) := H
  have A5 := QS A50
  clear A50
  obtain ⟨y222,hy222⟩ : ∃ y_ : List Int,y_ = (([104,99,213,313,401,(-4),(-2),9223372036854775807] : List Int)) := ⟨_,rfl⟩
  replace H : ((spec_l1Int.f s0_0 t220 t221 y222).bind fun bt225 => (if 0 ≤ t219 then (if t219 < (t211.length : Int) then (some ((t211.set (t219 : Int).toNat bt225.1),bt225.2.1,bt225.2.2)) else (none)) else (none))) = some (r1,r2,r3) := by first | (rw [hy222]; with_reducible exact H) | (have H2_ := (Option.bind_some _ _).symm.trans H; rw [hy222]; with_reducible exact H2_) | (have H2_ := (Option.bind_some _ _).symm.trans H; with_reducible exact H2_) | with_reducible exact H | (rw [hy222]; exact H) | exact H
  have Ny222 := QS hy222
  clear hy222
  replace H := QT.mp H
  obtain ⟨⟨t225,t226,t227⟩,A60,H⟩ := H
  replace H : (if 0 ≤ t219 then (if t219 < (t211.length : Int) then (some ((t211.set (t219 : Int).toNat t225),t226,t227)) else (none)) else (none)) = some (r1,r2,r3) := H
  have A6 := QS A60
  clear A60
  by_cases c7 : 0 ≤ t219
  ·rw [if_pos c7] at H
   have c7b0 : decide (0 ≤ t219) = true := decide_eq_true c7
   clear c7
   by_cases c8 : t219 < (t211.length : Int)
   ·rw [if_pos c8] at H
    have c8b0 : decide (t219 < (t211.length : Int)) = true := decide_eq_true c8
    clear c8
    obtain ⟨y228,hy228⟩ : ∃ y_ : List Int,y_ = (t211.set (t219 : Int).toNat t225) := ⟨_,rfl⟩
    replace H : (some (y228,t226,t227)) = some (r1,r2,r3) := by first | (rw [hy228]; with_reducible exact H) | (have H2_ := (Option.bind_some _ _).symm.trans H; rw [hy228]; with_reducible exact H2_) | (have H2_ := (Option.bind_some _ _).symm.trans H; with_reducible exact H2_) | with_reducible exact H | (rw [hy228]; exact H) | exact H
    have Ny228 := QS hy228
    clear hy228
    simp only [Option.some.injEq,Prod.mk.injEq] at H
    obtain ⟨rfl,rfl,rfl⟩ := H
    go_enter Tryd.func63,Tryd.ntmps63
    go_wp2_with (first | ((with_reducible refine QL (f := 81) rfl ?_); refine goesL_ (some 5) rfl rfl Tryd.func81 (by kernel_rfl) rfl #[.pointer (some ⟨g,0,none⟩),.int .i64 2] rfl (by (try simp only [List.map_toArray,List.map_cons,List.map_nil]); first | done | rfl | (simp only [List.length_drop,List.length_take]; rfl)) ?_; (with_reducible refine (spec_l8Draw.calls k g s0_0 s0_1 s0_2 2 t211 t214 t215 w0 _ ?side1 ?side2 A2.out).mono ?_); (case side1 => repeat (first | (with_reducible first | exact HI0.out | apply IsS80.alloc | apply IsS80.drewN | apply IsS80.drew | apply IsS80.set_1 | apply IsS80.set_2) | exact HI0.out)); (case side2 => repeat (first | (with_reducible first | exact HB.out | apply QC | apply QB | apply QD | refine QG ?_ (IsS80.ge HI0.out)) | exact HB.out)); rintro e w10 ⟨v212,rfl,ho0,hi,hb,hk⟩; refine ⟨_,rfl,?_⟩; have n0_ := QS (Kd.R_lower ho0 (keep_size (w := w) (g := g) (row := none) (by repeat (first | (with_reducible first | exact HK.out | apply KeepBut.set_ | apply QE | apply QH | apply QF) | exact HK.out)))); have n1_ := QS (KeepBut.trans (by repeat (first | (with_reducible first | exact HK.out | apply KeepBut.set_ | apply QE | apply QH | apply QF) | exact HK.out)) hk (.inl rfl)); have n2_ := QS (hb); have n3_ := QS (hi); clear HK; clear HB; clear HI0; revert n0_ n1_ n2_ n3_; intro HO213 HK HB HI0; (try clear hb); (try clear hk); (try clear hi); (try clear ho0)) | ((with_reducible refine QL (f := 38) rfl ?_); refine goesL_ (some 7) rfl rfl Tryd.func38 (by kernel_rfl) rfl #[.pointer (some ⟨g,0,none⟩),.int .i64 10] rfl (by (try simp only [List.map_toArray,List.map_cons,List.map_nil]); first | done | rfl | (simp only [List.length_drop,List.length_take]; rfl)) ?_; (with_reducible refine (spec_l1Below.calls g s0_0 t214 t215 10 t216 t217 t218 w0 _ ?side1 ?side2 A3.out).mono ?_); (case side1 => repeat (first | (with_reducible first | exact HI0.out | apply IsS80.alloc | apply IsS80.drewN | apply IsS80.drew | apply IsS80.set_1 | apply IsS80.set_2) | exact HI0.out)); (case side2 => repeat (first | (with_reducible first | exact HB.out | apply QC | apply QB | apply QD | refine QG ?_ (IsS80.ge HI0.out)) | exact HB.out)); rintro e w11 ⟨rfl,hi,hb,hk⟩; refine ⟨_,rfl,?_⟩; have n0_ := QS (QR (Kd.R_keep (IsS80.apart (show IsS80 w0 _ g s0_0 t214 t215 from by repeat (first | (with_reducible first | exact HI0.out | apply IsS80.alloc | apply IsS80.drewN | apply IsS80.drew | apply IsS80.set_1 | apply IsS80.set_2) | exact HI0.out)) (by (with_reducible repeat (first | apply QM | apply QN | apply QO)); exact HO213.out) (by decide)) hk (fun _ h => h.2)) (fun _ h => h.1)); have n1_ := QS (KeepBut.trans (by repeat (first | (with_reducible first | exact HK.out | apply KeepBut.set_ | apply QE | apply QH | apply QF) | exact HK.out)) hk (.inl rfl)); have n2_ := QS (hb); have n3_ := QS (hi); clear HO213; clear HK; clear HB; clear HI0; revert n0_ n1_ n2_ n3_; intro HO213 HK HB HI0; (try clear hb); (try clear hk); (try clear hi); obtain ⟨Ao12,co12,eo12⟩ := Kd.R_slice HO213.out; subst eo12) | ((with_reducible refine QL (f := 38) rfl ?_); refine goesL_ (some 14) rfl rfl Tryd.func38 (by kernel_rfl) rfl #[.pointer (some ⟨g,0,none⟩),.int .i64 (t211.length : Int)] rfl (by (try simp only [List.map_toArray,List.map_cons,List.map_nil]); first | done | rfl | (simp only [List.length_drop,List.length_take]; rfl)) ?_; (with_reducible refine (spec_l1Below.calls g s0_0 t217 t218 (t211.length : Int) t219 t220 t221 w0 _ ?side1 ?side2 A5.out).mono ?_); (case side1 => repeat (first | (with_reducible first | exact HI0.out | apply IsS80.alloc | apply IsS80.drewN | apply IsS80.drew | apply IsS80.set_1 | apply IsS80.set_2) | exact HI0.out)); (case side2 => repeat (first | (with_reducible first | exact HB.out | apply QC | apply QB | apply QD | refine QG ?_ (IsS80.ge HI0.out)) | exact HB.out)); rintro e w13 ⟨rfl,hi,hb,hk⟩; refine ⟨_,rfl,?_⟩; have n0_ := QS (QR (Kd.R_keep (IsS80.apart (show IsS80 w0 _ g s0_0 t217 t218 from by repeat (first | (with_reducible first | exact HI0.out | apply IsS80.alloc | apply IsS80.drewN | apply IsS80.drew | apply IsS80.set_1 | apply IsS80.set_2) | exact HI0.out)) (by (with_reducible repeat (first | apply QM | apply QN | apply QO)); exact HO213.out) (by decide)) hk (fun _ h => h.2)) (fun _ h => h.1)); have n1_ := QS (KeepBut.trans (by repeat (first | (with_reducible first | exact HK.out | apply KeepBut.set_ | apply QE | apply QH | apply QF) | exact HK.out)) hk (.inl rfl)); have n2_ := QS (hb); have n3_ := QS (hi); clear HO213; clear HK; clear HB; clear HI0; revert n0_ n1_ n2_ n3_; intro HO213 HK HB HI0; (try clear hb); (try clear hk); (try clear hi)) | ((with_reducible refine gate_dst (N := 16) rfl ?_); refine Kd.R_lit (Kd.int .i64) _ 3 ?hg (N := 16) ?hd (xs := ([104,99,213,313,401,(-4),(-2),9223372036854775807] : List Int)) (inner := [.int .i64 104,.int .i64 99,.int .i64 213,.int .i64 313,.int .i64 401,.int .i64 (-4),.int .i64 (-2),.int .i64 9223372036854775807]) (ok := fun _ => True) (okp := fun _ => True) ?hr ?hp (fun _ hk => hk) trivial (Below.refl _ _) (Nat.le_refl _) (by simp) ?_; (case hd => rfl); (case hg => rfl); (case hr => first | (go_simp; done) | (go_simp; rfl)); (case hp => exact (Reps.one (show Kd.M (Kd.int .i64) _ _ _ 104 [.int .i64 104] from rfl) (Reps.one (show Kd.M (Kd.int .i64) _ _ _ 99 [.int .i64 99] from rfl) (Reps.one (show Kd.M (Kd.int .i64) _ _ _ 213 [.int .i64 213] from rfl) (Reps.one (show Kd.M (Kd.int .i64) _ _ _ 313 [.int .i64 313] from rfl) (Reps.one (show Kd.M (Kd.int .i64) _ _ _ 401 [.int .i64 401] from rfl) (Reps.one (show Kd.M (Kd.int .i64) _ _ _ (-4) [.int .i64 (-4)] from rfl) (Reps.one (show Kd.M (Kd.int .i64) _ _ _ (-2) [.int .i64 (-2)] from rfl) (Reps.one (show Kd.M (Kd.int .i64) _ _ _ 9223372036854775807 [.int .i64 9223372036854775807] from rfl) (Reps.none _ _)))))))))); intro v223 w14 ho15 hb hg_ hnew_; clear hg_ hnew_; (first | rw [← Ny222.out] at ho15 | (simp only [Int.reduceToNat] at ho15; rw [← Ny222.out] at ho15)); have n0_ := QS (Kd.R_elder' (by (with_reducible repeat (first | apply QM | apply QN | apply QO)); exact HO213.out) (Kd.R_base ho15) hb); have n1_ := QS (Kd.R_lower (Kd.R_new' ho15 (Kd.R_lt (by (with_reducible repeat (first | apply QM | apply QN | apply QO)); exact HO213.out))) (keep_size (w := w) (g := g) (row := none) (by repeat (first | (with_reducible first | exact HK.out | apply KeepBut.set_ | apply QE | apply QH | apply QF) | exact HK.out)))); have n2_ := QS (IsS80.below (by repeat (first | (with_reducible first | exact HI0.out | apply IsS80.alloc | apply IsS80.drewN | apply IsS80.drew | apply IsS80.set_1 | apply IsS80.set_2) | exact HI0.out)) hb); have n3_ := QS (KeepBut.trans (by repeat (first | (with_reducible first | exact HK.out | apply KeepBut.set_ | apply QE | apply QH | apply QF) | exact HK.out)) (KeepBut.of_below hb g none) (.inl rfl)); have n4_ := QS (below_step (by repeat (first | (with_reducible first | exact HB.out | apply QC | apply QB | apply QD | refine QG ?_ (IsS80.ge HI0.out)) | exact HB.out)) hb); clear HO213; clear HI0; clear HK; clear HB; revert n0_ n1_ n2_ n3_ n4_; intro HO213 HO224 HI0 HK HB; clear hb ho15; obtain ⟨Ao16,co16,eo16⟩ := Kd.R_slice HO224.out; subst eo16) | ((with_reducible refine QL (f := 62) rfl ?_); refine goesL_ (some 17) rfl rfl Tryd.func62 (by kernel_rfl) rfl #[.pointer (some ⟨g,0,none⟩),.slice Ao16 y222.length co16] rfl (by (try simp only [List.map_toArray,List.map_cons,List.map_nil]); first | done | rfl | (simp only [List.length_drop,List.length_take]; rfl)) ?_; (with_reducible refine (spec_l1Int.calls g s0_0 t220 t221 _ _ y222 t225 t226 t227 w0 _ ?side1 ?side2 ?side3 ?side4 ?side5 A6.out).mono ?_); (case side1 => repeat (first | (with_reducible first | exact HI0.out | apply IsS80.alloc | apply IsS80.drewN | apply IsS80.drew | apply IsS80.set_1 | apply IsS80.set_2) | exact HI0.out)); (case side2 => repeat (first | (with_reducible first | exact HB.out | apply QC | apply QB | apply QD | refine QG ?_ (IsS80.ge HI0.out)) | exact HB.out)); (case side3 => repeat (first | exact (Kd.R_reads' HO224.out).2.2 | (with_reducible refine Kd.C_alloc ?_ _) | (with_reducible refine Kd.C_drewN ?_ _) | (with_reducible refine Kd.C_drew ?_))); (case side4 => exact (Kd.R_reads' HO224.out).2.1); (case side5 => exact far_slice (IsS80.own_ne HI0.out HO224.out (by decide))); rintro e w17 ⟨rfl,hi,hb,hk⟩; refine ⟨_,rfl,?_⟩; have n0_ := QS (QR (Kd.R_keep (IsS80.apart (show IsS80 w0 _ g s0_0 t220 t221 from by repeat (first | (with_reducible first | exact HI0.out | apply IsS80.alloc | apply IsS80.drewN | apply IsS80.drew | apply IsS80.set_1 | apply IsS80.set_2) | exact HI0.out)) (by (with_reducible repeat (first | apply QM | apply QN | apply QO)); exact HO213.out) (by decide)) hk (fun _ h => h.2)) (fun _ h => h.1)); have n1_ := QS (QR (Kd.R_keep (IsS80.apart (show IsS80 w0 _ g s0_0 t220 t221 from by repeat (first | (with_reducible first | exact HI0.out | apply IsS80.alloc | apply IsS80.drewN | apply IsS80.drew | apply IsS80.set_1 | apply IsS80.set_2) | exact HI0.out)) (by (with_reducible repeat (first | apply QM | apply QN | apply QO)); exact HO224.out) (by decide)) hk (fun _ h => h.2)) (fun _ h => h.1)); have n2_ := QS (KeepBut.trans (by repeat (first | (with_reducible first | exact HK.out | apply KeepBut.set_ | apply QE | apply QH | apply QF) | exact HK.out)) hk (.inl rfl)); have n3_ := QS (hb); have n4_ := QS (hi); clear HO213; clear HO224; clear HK; clear HB; clear HI0; revert n0_ n1_ n2_ n3_ n4_; intro HO213 HO224 HK HB HI0; (try clear hb); (try clear hk); (try clear hi); have p9 : 0 ≤ (t219 : Int) := of_decide_eq_true (by first | (with_reducible assumption) | assumption); have q9 : (t219 : Int) < ((t211.length : Int) : Int) := of_decide_eq_true (by first | (with_reducible assumption) | assumption); obtain ⟨go9,co9,eo9,gb9,gl9,cl9,HG9⟩ := Kd.R_form HO213.out (by omega); (first | cases eo9 | (injection eo9 with ea_ en_ ec_; (first | subst ea_ | (injection ea_ with ea_; subst ea_)); subst ec_; clear en_)); have GB9 := QS gb9; have GG9 := QS HG9; clear gb9 gl9 HG9; obtain ⟨hx9_0,hf9_0⟩ := Kd.R_celln 0 HO213.out (t219 : Int) p9 q9; replace p9 := eq_true p9; replace q9 := eq_true q9; have n_ := QS (QR (ok' := (fun k_ => some k_ ≠ (.slice Ao16 y222.length co16 : Value).ownBlock)) HO213.out (by first | exact fun k_ hk => hk.2 | exact fun k_ hk => hk)); clear HO213; have HO213 := n_; clear n_; obtain ⟨hy18_,hz18_⟩ := Kd.R_celln 0 HO213.out (t219 : Int) (of_decide_eq_true (by first | (with_reducible assumption) | assumption)) (of_decide_eq_true (by first | (with_reducible assumption) | assumption)); have HP18 := Kd.R_putg HO213.out (t219 : Int) t225) | ((with_reducible refine gate_store (t := 3) (p := 18) rfl ?_); refine store_event (t := 3) (p := 18) (v := ?vo_w19) (w1 := (w17.setCell ⟨go9,(t219 : Int).toNat,none⟩ (.int .i64 t225))) ?hg ?ho ?hn ?hr ?_; (case ho => rfl); (case hg => rfl); (case hn => rfl); (case hr => first | (go_simp; done) | (go_simp; rfl)); intro w19 hw; have hg : w17.grownBy w19 (some go9) := (by rw [hw]; exact HP18.2); have hp_ : Kd.R (Kd.int .i64) 3 w19 w.heap.size (fun k_ => some k_ ≠ (.slice Ao16 y222.length co16 : Value).ownBlock) (.slice (some ⟨go9,0,none⟩) t211.length co12) y228 := (by rw [hw,Ny228.out]; exact HP18.1); clear HP18; have n0_ := QS (IsS80.grown (by repeat (first | (with_reducible first | exact HI0.out | apply IsS80.alloc | apply IsS80.drewN | apply IsS80.drew | apply IsS80.set_1 | apply IsS80.set_2) | exact HI0.out)) hg (IsS80.own_ne HI0.out HO213.out (by decide))); have n1_ := QS (hp_); have n2_ := QS (Kd.R_after (v := (.slice (some ⟨go9,0,none⟩) t211.length co12)) (v1 := (.slice (some ⟨go9,0,none⟩) t211.length co12)) (ok := (fun _ => True)) (by (with_reducible repeat (first | apply QM | apply QN | apply QO)); first | exact HO224.out | exact QR HO224.out (fun _ hk => ⟨trivial,hk⟩)) hg (.inl rfl)); have n3_ := QS ((by rw [hw]; exact QG (HB.out) (Nat.le_trans HL.out GB9.out) : Below w0.heap.size w0 w19)); have n4_ := QS (KeepBut.trans (by repeat (first | (with_reducible first | exact HK.out | apply KeepBut.set_ | apply QE | apply QH | apply QF) | exact HK.out)) (KeepBut.of_grown hg g) (Kd.R_base2 HO213.out)); clear HI0; clear HO213; clear HO224; clear HB; clear HK; revert n0_ n1_ n2_ n3_ n4_; intro HI0 HO213 HO224 HB HK; clear hg hw hp_))
    go_ret
    exact ⟨_,by first | rfl | (simp [errW_none,errW_some] <;> rfl) | (simp [*,errW_none,errW_some] <;> rfl),Kd.Q_of_R (by (with_reducible repeat (first | apply QM | apply QN | apply QO)); exact QR HO213.out (fun _ hk => trivial)),by repeat (first | (with_reducible first | exact HI0.out | apply IsS80.alloc | apply IsS80.drewN | apply IsS80.drew | apply IsS80.set_1 | apply IsS80.set_2) | exact HI0.out),by repeat (first | (with_reducible first | exact HB.out | apply QC | apply QB | apply QD | refine QG ?_ (IsS80.ge HI0.out)) | exact HB.out),by repeat (first | (with_reducible first | exact HK.out | apply KeepBut.set_ | apply QE | apply QH | apply QF) | exact HK.out)⟩
   ·rw [if_neg c8] at H
    exact absurd H (by simp)
  ·rw [if_neg c7] at H
   exact absurd H (by simp)
 ·rw [if_neg c4] at H
  have c4b0 : (t216 == 0) = false := beq_eq_false_iff_ne.mpr c4
  have c4b1 : (t216 != 0) = true := bne_iff_ne.mpr c4
  by_cases c20 : t216 = 1
  ·rw [if_pos c20] at H
   have c20b0 : (t216 == 1) = true := beq_iff_eq.mpr c20
   have c20b1 : (t216 != 1) = false := bne_eq_false_iff_eq.mpr c20
   clear c20
   by_cases c21 : 1 ≤ (t211.length : Int)
   ·rw [if_pos c21] at H
    have c21b0 := eq_true c21
    have c21b1 : decide (1 ≤ (t211.length : Int)) = true := decide_eq_true c21
    clear c21
    obtain ⟨y229,hy229⟩ : ∃ y_ : List Int,y_ = (t211.drop (1 : Int).toNat) := ⟨_,rfl⟩
    replace H : (some (y229,t217,t218)) = some (r1,r2,r3) := by first | (rw [hy229]; with_reducible exact H) | (have H2_ := (Option.bind_some _ _).symm.trans H; rw [hy229]; with_reducible exact H2_) | (have H2_ := (Option.bind_some _ _).symm.trans H; with_reducible exact H2_) | with_reducible exact H | (rw [hy229]; exact H) | exact H
    have Ny229 := QS hy229
    clear hy229
    simp only [Option.some.injEq,Prod.mk.injEq] at H
    obtain ⟨rfl,rfl,rfl⟩ := H
    go_enter Tryd.func63,Tryd.ntmps63
    go_wp2_with (first | ((with_reducible refine QL (f := 81) rfl ?_); refine goesL_ (some 5) rfl rfl Tryd.func81 (by kernel_rfl) rfl #[.pointer (some ⟨g,0,none⟩),.int .i64 2] rfl (by (try simp only [List.map_toArray,List.map_cons,List.map_nil]); first | done | rfl | (simp only [List.length_drop,List.length_take]; rfl)) ?_; (with_reducible refine (spec_l8Draw.calls k g s0_0 s0_1 s0_2 2 t211 t214 t215 w0 _ ?side1 ?side2 A2.out).mono ?_); (case side1 => repeat (first | (with_reducible first | exact HI0.out | apply IsS80.alloc | apply IsS80.drewN | apply IsS80.drew | apply IsS80.set_1 | apply IsS80.set_2) | exact HI0.out)); (case side2 => repeat (first | (with_reducible first | exact HB.out | apply QC | apply QB | apply QD | refine QG ?_ (IsS80.ge HI0.out)) | exact HB.out)); rintro e w22 ⟨v212,rfl,ho0,hi,hb,hk⟩; refine ⟨_,rfl,?_⟩; have n0_ := QS (Kd.R_lower ho0 (keep_size (w := w) (g := g) (row := none) (by repeat (first | (with_reducible first | exact HK.out | apply KeepBut.set_ | apply QE | apply QH | apply QF) | exact HK.out)))); have n1_ := QS (KeepBut.trans (by repeat (first | (with_reducible first | exact HK.out | apply KeepBut.set_ | apply QE | apply QH | apply QF) | exact HK.out)) hk (.inl rfl)); have n2_ := QS (hb); have n3_ := QS (hi); clear HK; clear HB; clear HI0; revert n0_ n1_ n2_ n3_; intro HO213 HK HB HI0; (try clear hb); (try clear hk); (try clear hi); (try clear ho0)) | ((with_reducible refine QL (f := 38) rfl ?_); refine goesL_ (some 7) rfl rfl Tryd.func38 (by kernel_rfl) rfl #[.pointer (some ⟨g,0,none⟩),.int .i64 10] rfl (by (try simp only [List.map_toArray,List.map_cons,List.map_nil]); first | done | rfl | (simp only [List.length_drop,List.length_take]; rfl)) ?_; (with_reducible refine (spec_l1Below.calls g s0_0 t214 t215 10 t216 t217 t218 w0 _ ?side1 ?side2 A3.out).mono ?_); (case side1 => repeat (first | (with_reducible first | exact HI0.out | apply IsS80.alloc | apply IsS80.drewN | apply IsS80.drew | apply IsS80.set_1 | apply IsS80.set_2) | exact HI0.out)); (case side2 => repeat (first | (with_reducible first | exact HB.out | apply QC | apply QB | apply QD | refine QG ?_ (IsS80.ge HI0.out)) | exact HB.out)); rintro e w23 ⟨rfl,hi,hb,hk⟩; refine ⟨_,rfl,?_⟩; have n0_ := QS (QR (Kd.R_keep (IsS80.apart (show IsS80 w0 _ g s0_0 t214 t215 from by repeat (first | (with_reducible first | exact HI0.out | apply IsS80.alloc | apply IsS80.drewN | apply IsS80.drew | apply IsS80.set_1 | apply IsS80.set_2) | exact HI0.out)) (by (with_reducible repeat (first | apply QM | apply QN | apply QO)); exact HO213.out) (by decide)) hk (fun _ h => h.2)) (fun _ h => h.1)); have n1_ := QS (KeepBut.trans (by repeat (first | (with_reducible first | exact HK.out | apply KeepBut.set_ | apply QE | apply QH | apply QF) | exact HK.out)) hk (.inl rfl)); have n2_ := QS (hb); have n3_ := QS (hi); clear HO213; clear HK; clear HB; clear HI0; revert n0_ n1_ n2_ n3_; intro HO213 HK HB HI0; (try clear hb); (try clear hk); (try clear hi); obtain ⟨Ao24,co24,eo24⟩ := Kd.R_slice HO213.out; subst eo24; have q25 : (1 : Int) ≤ ((t211.length : Int) : Int) := of_decide_eq_true (by first | (with_reducible assumption) | assumption); obtain ⟨i025,hi025,_,hsz25,_⟩ := info_parts info3; have hcut25 := cut_from (P := Tryd.prog) 24 3 .i64 Tryd.underlying24 hi025 1 hsz25 Ao24 t211.length co24 1 (by omega) q25; have hr25 := Kd.Q_drop (k := (1 : Int).toNat) (Kd.Q_of_R HO213.out) (by omega); obtain ⟨A25,hA25⟩ : ∃ A1,A1 = (if co24 = (1 : Int).toNat then Ao24 else (Ao24 : Option Addr).map (·.add ((1 : Int).toNat * 1))) := ⟨_,rfl⟩; obtain ⟨c25,hc25⟩ : ∃ c1,c1 = co24 - (1 : Int).toNat := ⟨_,rfl⟩; have hy25 : y229.length = t211.length - (1 : Int).toNat := (by rw [Ny229.out,List.length_drop]); rw [← Ny229.out] at hr25; rw [← hy25,← hA25,← hc25] at hcut25; replace hr25 : Kd.Q (Kd.int .i64) 3 w23 w.heap.size (fun _ => True) (.slice A25 y229.length c25) y229 := (by rw [hA25,hc25,hy25]; exact hr25); have HE25 : Aside0 ((Value.slice A25 y229.length c25).ownBlock = (.slice Ao24 t211.length co24 : Value).ownBlock) := ⟨by rw [hA25]; split <;> (cases (Ao24 : Option Addr) <;> rfl)⟩; clear hy25 hi025 hsz25 HO213 hA25 hc25; have HO231 := QS hr25; clear hr25; replace q25 := eq_true q25))
    go_ret
    exact ⟨_,by first | rfl | (simp [errW_none,errW_some] <;> rfl) | (simp [*,errW_none,errW_some] <;> rfl),by (with_reducible repeat (first | apply Kd.Q_alloc | apply Kd.Q_drewN | apply Kd.Q_drew)); exact HO231.out,by repeat (first | (with_reducible first | exact HI0.out | apply IsS80.alloc | apply IsS80.drewN | apply IsS80.drew | apply IsS80.set_1 | apply IsS80.set_2) | exact HI0.out),by repeat (first | (with_reducible first | exact HB.out | apply QC | apply QB | apply QD | refine QG ?_ (IsS80.ge HI0.out)) | exact HB.out),by repeat (first | (with_reducible first | exact HK.out | apply KeepBut.set_ | apply QE | apply QH | apply QF) | exact HK.out)⟩
   ·rw [if_neg c21] at H
    exact absurd H (by simp)
  ·rw [if_neg c20] at H
   have c20b0 : (t216 == 1) = false := beq_eq_false_iff_ne.mpr c20
   have c20b1 : (t216 != 1) = true := bne_iff_ne.mpr c20
   simp only [Option.some.injEq,Prod.mk.injEq] at H
   obtain ⟨rfl,rfl,rfl⟩ := H
   go_enter Tryd.func63,Tryd.ntmps63
   go_wp2_with (first | ((with_reducible refine QL (f := 81) rfl ?_); refine goesL_ (some 5) rfl rfl Tryd.func81 (by kernel_rfl) rfl #[.pointer (some ⟨g,0,none⟩),.int .i64 2] rfl (by (try simp only [List.map_toArray,List.map_cons,List.map_nil]); first | done | rfl | (simp only [List.length_drop,List.length_take]; rfl)) ?_; (with_reducible refine (spec_l8Draw.calls k g s0_0 s0_1 s0_2 2 t211 t214 t215 w0 _ ?side1 ?side2 A2.out).mono ?_); (case side1 => repeat (first | (with_reducible first | exact HI0.out | apply IsS80.alloc | apply IsS80.drewN | apply IsS80.drew | apply IsS80.set_1 | apply IsS80.set_2) | exact HI0.out)); (case side2 => repeat (first | (with_reducible first | exact HB.out | apply QC | apply QB | apply QD | refine QG ?_ (IsS80.ge HI0.out)) | exact HB.out)); rintro e w26 ⟨v212,rfl,ho0,hi,hb,hk⟩; refine ⟨_,rfl,?_⟩; have n0_ := QS (Kd.R_lower ho0 (keep_size (w := w) (g := g) (row := none) (by repeat (first | (with_reducible first | exact HK.out | apply KeepBut.set_ | apply QE | apply QH | apply QF) | exact HK.out)))); have n1_ := QS (KeepBut.trans (by repeat (first | (with_reducible first | exact HK.out | apply KeepBut.set_ | apply QE | apply QH | apply QF) | exact HK.out)) hk (.inl rfl)); have n2_ := QS (hb); have n3_ := QS (hi); clear HK; clear HB; clear HI0; revert n0_ n1_ n2_ n3_; intro HO213 HK HB HI0; (try clear hb); (try clear hk); (try clear hi); (try clear ho0)) | ((with_reducible refine QL (f := 38) rfl ?_); refine goesL_ (some 7) rfl rfl Tryd.func38 (by kernel_rfl) rfl #[.pointer (some ⟨g,0,none⟩),.int .i64 10] rfl (by (try simp only [List.map_toArray,List.map_cons,List.map_nil]); first | done | rfl | (simp only [List.length_drop,List.length_take]; rfl)) ?_; (with_reducible refine (spec_l1Below.calls g s0_0 t214 t215 10 t216 t217 t218 w0 _ ?side1 ?side2 A3.out).mono ?_); (case side1 => repeat (first | (with_reducible first | exact HI0.out | apply IsS80.alloc | apply IsS80.drewN | apply IsS80.drew | apply IsS80.set_1 | apply IsS80.set_2) | exact HI0.out)); (case side2 => repeat (first | (with_reducible first | exact HB.out | apply QC | apply QB | apply QD | refine QG ?_ (IsS80.ge HI0.out)) | exact HB.out)); rintro e w27 ⟨rfl,hi,hb,hk⟩; refine ⟨_,rfl,?_⟩; have n0_ := QS (QR (Kd.R_keep (IsS80.apart (show IsS80 w0 _ g s0_0 t214 t215 from by repeat (first | (with_reducible first | exact HI0.out | apply IsS80.alloc | apply IsS80.drewN | apply IsS80.drew | apply IsS80.set_1 | apply IsS80.set_2) | exact HI0.out)) (by (with_reducible repeat (first | apply QM | apply QN | apply QO)); exact HO213.out) (by decide)) hk (fun _ h => h.2)) (fun _ h => h.1)); have n1_ := QS (KeepBut.trans (by repeat (first | (with_reducible first | exact HK.out | apply KeepBut.set_ | apply QE | apply QH | apply QF) | exact HK.out)) hk (.inl rfl)); have n2_ := QS (hb); have n3_ := QS (hi); clear HO213; clear HK; clear HB; clear HI0; revert n0_ n1_ n2_ n3_; intro HO213 HK HB HI0; (try clear hb); (try clear hk); (try clear hi)))
   go_ret
   exact ⟨_,by first | rfl | (simp [errW_none,errW_some] <;> rfl) | (simp [*,errW_none,errW_some] <;> rfl),Kd.Q_of_R (by (with_reducible repeat (first | apply QM | apply QN | apply QO)); exact HO213.out),by repeat (first | (with_reducible first | exact HI0.out | apply IsS80.alloc | apply IsS80.drewN | apply IsS80.drew | apply IsS80.set_1 | apply IsS80.set_2) | exact HI0.out),by repeat (first | (with_reducible first | exact HB.out | apply QC | apply QB | apply QD | refine QG ?_ (IsS80.ge HI0.out)) | exact HB.out),by repeat (first | (with_reducible first | exact HK.out | apply KeepBut.set_ | apply QE | apply QH | apply QF) | exact HK.out)⟩

end Go.Proofs.YtdfmobcocaijpaaDoor.QFnScripts
