/- What a call of each Go function that FnRules reaches comes to, as a Lean function: texts of the kit's print, turned by wip/remake.py. No condition beyond what each names. -/
import Derived.Test.YtdakhelapeojgaaQFnRulesx0
namespace Go.Proofs.Ytdakhelapeojgaa.QFnRules
open Go.RowKit Go.Proofs.YtdakhelapeojgaaW.PrintWords Go.Proofs.YtdakhelapeojgaaW.PrintLast Go.Proofs.YtdakhelapeojgaaW.PrintMore
open Go.Proofs.YtdakhelapeojgaaW.PrintWords renaming pw_below_drewN → QB, below_alloc → QC, below_drew1 → QD, keep_drewN → QE, keep_alloc → QF, below_set → QG, keep_drew → QH, blk_drewN → QI, blk_alloc → QJ, blk_frozen → QK, blk_drew → QL, gate_callee → QM, blk_cell → QN, keep_far → QS
open Go.Proofs.YtdakhelapeojgaaW.PrintWords.Kd renaming R_alloc → QO, R_drewN → QP, R_drew → QR, R_mono → QT
open Go.Proofs.YtdakhelapeojgaaW.PrintWords.Aside0 renaming mk → QU
open Option renaming bind_eq_some_iff → QV
attribute [local go_sem] max2_int min2_int max_two min_two max_three min_three max_four min_four   -- for this text's walks alone
set_option linter.unusedVariables false
set_option linter.unusedSimpArgs false

/-! ### laws_big: function 32 -/
def laws_big.f (l0 : List Int) : Option (Bool) := some (decide ((l0.length : Int) > 1048576))
set_option maxHeartbeats 8000000 in
set_option maxRecDepth 100000 in
theorem laws_big.calls (A0 : Option Addr) (c0 : Nat) (l0 : List Int) (r : Bool) (w : World) (hr0 : Kd.C (Kd.int .u8) w A0 l0.length l0) (hc0 : l0.length ≤ c0) (h : laws_big.f l0 = some r) :
    Calls Try.prog 32 #[.slice A0 l0.length c0] w fun e w' => e = .returned (.bool r) ∧ Drawn0 w w' := by
  have HR0 := QU hr0
  have HC0 := QU hc0
  clear hr0 hc0
  have H : (some (decide ((l0.length : Int) > 1048576))) = some r := h
  clear h
  obtain rfl := Option.some.inj H
  go_enter Try.func32, Try.ntmps32
  go_wp2
  go_ret
  exact ⟨by first | rfl | (simp; done) | (simp [*]; done), by repeat (first | exact Drawn0.refl _ | apply Drawn0.step)⟩

/-! ### impl_InRange: function 99 -/
def impl_InRange.f (a0 : Int) (a1 : Int) (a2 : Int) : Option (Bool) := if a1 ≤ a0 then (some (decide (a0 ≤ a2))) else (some false)
set_option maxHeartbeats 8000000 in
set_option maxRecDepth 100000 in
theorem impl_InRange.calls (a0 : Int) (a1 : Int) (a2 : Int) (r : Bool) (w : World) (h : impl_InRange.f a0 a1 a2 = some r) :
    Calls Try.prog 99 #[.int .i64 a0, .int .i64 a1, .int .i64 a2] w fun e w' => e = .returned (.bool r) ∧ Drawn0 w w' := by
  have H : (if a1 ≤ a0 then (some (decide (a0 ≤ a2))) else (some false)) = some r := h
  clear h
  by_cases c4 : a1 ≤ a0
  · rw [if_pos c4] at H
    have c4b0 : decide (a1 ≤ a0) = true := decide_eq_true c4
    clear c4
    obtain rfl := Option.some.inj H
    go_enter Try.func99, Try.ntmps99
    go_wp2
    go_ret
    exact ⟨by first | rfl | (simp; done) | (simp [*]; done), by repeat (first | exact Drawn0.refl _ | apply Drawn0.step)⟩
  · rw [if_neg c4] at H
    have c4b0 : decide (a1 ≤ a0) = false := decide_eq_false c4
    clear c4
    obtain rfl := Option.some.inj H
    go_enter Try.func99, Try.ntmps99
    go_wp2
    go_ret
    exact ⟨by first | rfl | (simp; done) | (simp [*]; done), by repeat (first | exact Drawn0.refl _ | apply Drawn0.step)⟩

/-! ### impl_IsCard: function 46 -/
def impl_IsCard.f (a0 : Int) : Option (Bool) := (impl_InRange.f a0 0 51).bind fun t101 => (some t101)
set_option maxHeartbeats 8000000 in
set_option maxRecDepth 100000 in
theorem impl_IsCard.calls (a0 : Int) (r : Bool) (w : World) (h : impl_IsCard.f a0 = some r) :
    Calls Try.prog 46 #[.int .i64 a0] w fun e w' => e = .returned (.bool r) ∧ Drawn0 w w' := by
  have H : ((impl_InRange.f a0 0 51).bind fun t101 => (some t101)) = some r := h
  clear h
  replace H := QV.mp H
  obtain ⟨t101, A20, H⟩ := H
  have A2 := QU A20
  clear A20
  obtain rfl := Option.some.inj H
  go_enter Try.func46, Try.ntmps46
  go_wp2_with (first | ((with_reducible refine QM (f := 99) rfl ?_); refine goesL_ (some 4) rfl rfl Try.func99 (by kernel_rfl) rfl #[.int .i64 a0, .int .i64 0, .int .i64 51] rfl (by (try simp only [List.map_toArray, List.map_cons, List.map_nil]); first | done | rfl | (simp only [List.length_drop, List.length_take]; rfl)) ?_; (with_reducible refine (impl_InRange.calls a0 0 51 t101 _ A2.out).mono ?_); rintro e w' ⟨rfl, ⟨nd, rfl⟩⟩; refine ⟨_, rfl, ?_⟩))
  go_ret
  exact ⟨by first | rfl | (simp; done) | (simp [*]; done), by repeat (first | exact Drawn0.refl _ | apply Drawn0.step)⟩

/-- A state of type 123 at block g of W; what its slices lead to came in by w0. -/
def IsS123 (w0 W : World) (g : Nat) (f0 : List Int) (f1 : Int) (f2 : Int) : Prop := ∃ A0 c0, W.heap[g]? = some (.cells #[.slice A0 f0.length c0, .int .i64 f1, .int .i64 f2] 123 (0, 0)) ∧ w0.heap.size ≤ g ∧ Kd.C (Kd.int .u8) w0 A0 f0.length f0
theorem IsS123.grown {w0 W : World} {g : Nat} {f0 : List Int} {f1 : Int} {f2 : Int} {W1 : World} {row : Option Nat} (h : IsS123 w0 W g f0 f1 f2) (hw : W.grownBy W1 row) (hne : some g ≠ row) : IsS123 w0 W1 g f0 f1 f2 := by
  obtain ⟨A0, c0, hb, hg, hr0⟩ := h
  exact ⟨A0, c0, blk_grown hb hw hne, hg, hr0⟩
theorem IsS123.own_neN {w0 W : World} {g : Nat} {f0 : List Int} {f1 : Int} {f2 : Int} {α : Type} {d : Kd α} {e : Nat} {base : Nat} {ok : Nat → Prop} {v : Value} {xs : List α} (h : IsS123 w0 W g f0 f1 f2) (ho : Kd.N d e W base ok v xs) (ht : e ≠ 123) : some g ≠ v.ownBlock := by
  obtain ⟨A0, c0, hb, hg, hr0⟩ := h
  exact Kd.N_ne ho hb ht
theorem IsS123.fresh {w0 W : World} {g : Nat} {f0 : List Int} {f1 : Int} {f2 : Int} (h : IsS123 w0 W g f0 f1 f2) : ∀ k, W.heap.size ≤ k → k ≠ g := by
  obtain ⟨A0, c0, hb, hg, hr0⟩ := h
  exact Kd.freshB hb
theorem IsS123.kept {w0 W : World} {g : Nat} {f0 : List Int} {f1 : Int} {f2 : Int} {W1 : World} {S : Nat → Prop} (h : IsS123 w0 W g f0 f1 f2) (hk : Kept W W1 S) (hne : ¬ S g) : IsS123 w0 W1 g f0 f1 f2 := by
  obtain ⟨A0, c0, hb, hg, hr0⟩ := h
  exact ⟨A0, c0, blk_kept hb hk hne, hg, hr0⟩
theorem IsS123.below {w0 W : World} {g : Nat} {f0 : List Int} {f1 : Int} {f2 : Int} {W1 : World} (h : IsS123 w0 W g f0 f1 f2) (hw : Below W.heap.size W W1) : IsS123 w0 W1 g f0 f1 f2 := h.grown (grown_of_below hw none) (by simp)
theorem IsS123.alloc {w0 W : World} {g : Nat} {f0 : List Int} {f1 : Int} {f2 : Int} (h : IsS123 w0 W g f0 f1 f2) (o : Obj) : IsS123 w0 (W.alloc o) g f0 f1 f2 := h.below (QC (Below.refl _ _) o)
theorem IsS123.drewN {w0 W : World} {g : Nat} {f0 : List Int} {f1 : Int} {f2 : Int} (h : IsS123 w0 W g f0 f1 f2) (m : Nat) : IsS123 w0 (W.drewN m) g f0 f1 f2 := h
theorem IsS123.drew {w0 W : World} {g : Nat} {f0 : List Int} {f1 : Int} {f2 : Int} (h : IsS123 w0 W g f0 f1 f2) : IsS123 w0 W.drew g f0 f1 f2 := h
theorem IsS123.at_ {w0 W : World} {g : Nat} {f0 : List Int} {f1 : Int} {f2 : Int} {w' : World} {m : Nat} (hq : W.drewN m = w') (h : IsS123 w0 W g f0 f1 f2) : IsS123 w0 w' g f0 f1 f2 := by subst hq; exact IsS123.drewN h m
theorem IsS123.apart {w0 W : World} {g : Nat} {f0 : List Int} {f1 : Int} {f2 : Int} {α : Type} {d : Kd α} {e : Nat} {base : Nat} {ok : Nat → Prop} {v : Value} {xs : List α} (h : IsS123 w0 W g f0 f1 f2) (ho : d.R e W base ok v xs) (ht : ∀ q, q ∈ e :: d.E → q ≠ 123) : d.R e W base (fun k => ok k ∧ k ≠ g) v xs := by
  obtain ⟨A0, c0, hb, hg, hr0⟩ := h
  exact Kd.R_types ho hb ht
theorem IsS123.own_ne {w0 W : World} {g : Nat} {f0 : List Int} {f1 : Int} {f2 : Int} {α : Type} {d : Kd α} {e : Nat} {base : Nat} {ok : Nat → Prop} {v : Value} {xs : List α} (h : IsS123 w0 W g f0 f1 f2) (ho : d.R e W base ok v xs) (ht : e ≠ 123) : some g ≠ v.ownBlock := by
  obtain ⟨A0, c0, hb, hg, hr0⟩ := h
  exact Kd.R_ne ho hb ht
theorem IsS123.apartQ {w0 W : World} {g : Nat} {f0 : List Int} {f1 : Int} {f2 : Int} {α : Type} {d : Kd α} {e : Nat} {base : Nat} {ok : Nat → Prop} {v : Value} {xs : List α} (h : IsS123 w0 W g f0 f1 f2) (ho : d.Q e W base ok v xs) (ht : ∀ q, q ∈ e :: d.E → q ≠ 123) : d.Q e W base (fun k => ok k ∧ k ≠ g) v xs := by
  obtain ⟨A0, c0, hb, hg, hr0⟩ := h
  exact Kd.Q_types ho hb ht
theorem IsS123.own_neQ {w0 W : World} {g : Nat} {f0 : List Int} {f1 : Int} {f2 : Int} {α : Type} {d : Kd α} {e : Nat} {base : Nat} {ok : Nat → Prop} {v : Value} {xs : List α} (h : IsS123 w0 W g f0 f1 f2) (ho : d.Q e W base ok v xs) (ht : e ≠ 123) : some g ≠ v.ownBlock := by
  obtain ⟨A0, c0, hb, hg, hr0⟩ := h
  exact Kd.Q_ne ho hb ht
theorem IsS123.apartS {w0 W : World} {g : Nat} {f0 : List Int} {f1 : Int} {f2 : Int} {α : Type} {d : Kd α} {e : Nat} {base : Nat} {ok : Nat → Prop} {v : Value} {xs : List α} (h : IsS123 w0 W g f0 f1 f2) (ho : d.S e W base ok v xs) (ht : ∀ q, q ∈ e :: d.E → q ≠ 123) : d.S e W base (fun k => ok k ∧ k ≠ g) v xs := by
  obtain ⟨A0, c0, hb, hg, hr0⟩ := h
  exact Kd.S_types ho hb ht
theorem IsS123.own_neS {w0 W : World} {g : Nat} {f0 : List Int} {f1 : Int} {f2 : Int} {α : Type} {d : Kd α} {e : Nat} {base : Nat} {ok : Nat → Prop} {v : Value} {xs : List α} (h : IsS123 w0 W g f0 f1 f2) (ho : d.S e W base ok v xs) (ht : e ≠ 123) : some g ≠ v.ownBlock := by
  obtain ⟨A0, c0, hb, hg, hr0⟩ := h
  exact Kd.S_ne ho hb ht
theorem IsS123.lt {w0 W : World} {g : Nat} {f0 : List Int} {f1 : Int} {f2 : Int} (h : IsS123 w0 W g f0 f1 f2) : g < W.heap.size := by
  obtain ⟨A0, c0, hb, hg, hr0⟩ := h
  exact blk_lt hb
theorem IsS123.ge {w0 W : World} {g : Nat} {f0 : List Int} {f1 : Int} {f2 : Int} (h : IsS123 w0 W g f0 f1 f2) : w0.heap.size ≤ g := by
  obtain ⟨A0, c0, hb, hg, hr0⟩ := h
  exact hg
theorem IsS123.ne_blk {w0 W : World} {g : Nat} {f0 : List Int} {f1 : Int} {f2 : Int} {a : Nat} {cs : Array Value} {t : TypeId} {fr : Nat × Nat} (h : IsS123 w0 W g f0 f1 f2) (hb2 : W.heap[a]? = some (.cells cs t fr)) (ht : t ≠ 123) : g ≠ a := by
  obtain ⟨A0, c0, hb, hg, hr0⟩ := h
  rintro rfl
  rw [hb] at hb2
  injection hb2 with hb2
  injection hb2 with _ ht2
  exact ht ht2.symm
theorem IsS123.far {w0 W : World} {g : Nat} {f0 : List Int} {f1 : Int} {f2 : Int} {p : Addr} (h : IsS123 w0 W g f0 f1 f2) (hne : g ≠ p.block) (u : Value) : IsS123 w0 (W.setCell p u) g f0 f1 f2 := by
  obtain ⟨A0, c0, hb, hg, hr0⟩ := h
  exact ⟨A0, c0, blk_far hb hne u, hg, hr0⟩
theorem cellS123_0 {W : World} {g : Nat} {A0 : Option Addr} {c0 : Nat} {f0 : List Int} {f1 : Int} {f2 : Int} (h : W.heap[g]? = some (.cells #[.slice A0 f0.length c0, .int .i64 f1, .int .i64 f2] 123 (0, 0))) : W.cell? ⟨g, 0, none⟩ = some (.slice A0 f0.length c0) := (QN h 0).trans rfl
theorem cellS123_1 {W : World} {g : Nat} {A0 : Option Addr} {c0 : Nat} {f0 : List Int} {f1 : Int} {f2 : Int} (h : W.heap[g]? = some (.cells #[.slice A0 f0.length c0, .int .i64 f1, .int .i64 f2] 123 (0, 0))) : W.cell? ⟨g, 1, none⟩ = some (.int .i64 f1) := (QN h 1).trans rfl
theorem IsS123.set_1 {w0 W : World} {g : Nat} {f0 : List Int} {f1 : Int} {f2 : Int} (h : IsS123 w0 W g f0 f1 f2) (x : Int) : IsS123 w0 (W.setCell ⟨g, 1, none⟩ (.int .i64 x)) g f0 x f2 := by
  obtain ⟨A0, c0, hb, hg, hr0⟩ := h
  exact ⟨A0, c0, by simpa using blk_set hb 1 (.int .i64 x), hg, hr0⟩
theorem cellS123_2 {W : World} {g : Nat} {A0 : Option Addr} {c0 : Nat} {f0 : List Int} {f1 : Int} {f2 : Int} (h : W.heap[g]? = some (.cells #[.slice A0 f0.length c0, .int .i64 f1, .int .i64 f2] 123 (0, 0))) : W.cell? ⟨g, 2, none⟩ = some (.int .i64 f2) := (QN h 2).trans rfl
theorem IsS123.set_2 {w0 W : World} {g : Nat} {f0 : List Int} {f1 : Int} {f2 : Int} (h : IsS123 w0 W g f0 f1 f2) (x : Int) : IsS123 w0 (W.setCell ⟨g, 2, none⟩ (.int .i64 x)) g f0 f1 x := by
  obtain ⟨A0, c0, hb, hg, hr0⟩ := h
  exact ⟨A0, c0, by simpa using blk_set hb 2 (.int .i64 x), hg, hr0⟩
theorem IsS123.new (w0 W : World) (A0 : Option Addr) (c0 : Nat) (f0 : List Int) (f1 : Int) (f2 : Int) (hB : Below w0.heap.size w0 W) (hr0 : Kd.C (Kd.int .u8) w0 A0 f0.length f0) : IsS123 w0 (W.alloc (.cells #[.slice A0 f0.length c0, .int .i64 f1, .int .i64 f2] 123)) W.heap.size f0 f1 f2 := ⟨A0, c0, by simpa using heap_alloc_new W _, hB.size, hr0⟩

/-! ### spec_l1New: function 122 -/
def spec_l1New.l0 : Nat → List Int → Int → Int → Option (List Int × Int × Int)
  | 0, _, _, _ => none
  | k + 1, x0, x3, x4 => if x4 < (x0.length : Int) then (if x4 < 4000 then (if 0 ≤ x4 then (spec_l1New.l0 k x0 (Go.bits .and .i64 (wrap64 ((wrap64 ((wrap64 (x3 * 137)) + (wrap64 (rd x0 x4)))) + 11)) 1073741823) (wrap64 (x4 + 1))) else (none)) else (some (x0, 0, x3))) else (some (x0, 0, x3))
def spec_l1New.f (k : Nat) (l0 : List Int) : Option (List Int × Int × Int) := spec_l1New.l0 k l0 (wrap64 (193017 + (l0.length : Int))) 0
theorem spec_l1New.mono_l : ∀ k, (∀ y0 y1 y2, LeO (spec_l1New.l0 k y0 y1 y2) (spec_l1New.l0 (k + 1) y0 y1 y2))
  | 0 => fun _ _ _ r h => by simp [spec_l1New.l0] at h
  | k + 1 => by
    have ih0 := spec_l1New.mono_l k
    · intro y0 y1 y2
      unfold spec_l1New.l0
      repeat' first
      | (with_reducible exact ih0 _ _ _)
      | (with_reducible exact LeO.refl _)
      | (with_reducible exact LeO.none _)
      | (with_reducible refine LeO.ite ?_ ?_)
      | (with_reducible refine LeO.bind ?_ (fun _ => ?_))
      | exact ih0 _ _ _
      | exact LeO.none _
      | refine LeO.ite ?_ ?_
      | refine LeO.bind ?_ (fun _ => ?_)
theorem spec_l1New.mono : ∀ a0 k, LeO (spec_l1New.f k a0) (spec_l1New.f (k + 1) a0) := by
  intro a0 k
  have ih0 := spec_l1New.mono_l k
  unfold spec_l1New.f
  repeat' first
      | (with_reducible exact ih0 _ _ _)
      | (with_reducible exact LeO.refl _)
      | (with_reducible exact LeO.none _)
      | (with_reducible refine LeO.ite ?_ ?_)
      | (with_reducible refine LeO.bind ?_ (fun _ => ?_))
      | exact ih0 _ _ _
      | exact LeO.none _
      | refine LeO.ite ?_ ?_
      | refine LeO.bind ?_ (fun _ => ?_)
set_option maxHeartbeats 8000000 in
set_option maxRecDepth 100000 in
theorem spec_l1New.calls (k : Nat) (A0 : Option Addr) (c0 : Nat) (l0 : List Int) (r1 : List Int) (r2 : Int) (r3 : Int) (w0 w : World) (hB : Below w0.heap.size w0 w) (hr0 : Kd.C (Kd.int .u8) w0 A0 l0.length l0) (hc0 : l0.length ≤ c0) (h : spec_l1New.f k l0 = some (r1, r2, r3)) :
    Calls Try.prog 122 #[.slice A0 l0.length c0] w fun e w' => ∃ g_ : Nat, e = .returned (.pointer (some ⟨g_, 0, none⟩)) ∧ IsS123 w0 w' g_ r1 r2 r3 ∧ Below w0.heap.size w0 w' ∧ Below w.heap.size w w' := by
  have hu123 := Try.underlying123
  have HR0 := QU hr0
  have HC0 := QU hc0
  clear hr0 hc0
  have HBW := QU (Below.refl w.heap.size w)
  have HW0 := QU hB.size
  have HB := QU hB
  clear hB
  have H : (spec_l1New.l0 k l0 (wrap64 (193017 + (l0.length : Int))) 0) = some (r1, r2, r3) := h
  clear h
  have H' := QU H
  clear H
  go_enter Try.func122, Try.ntmps122
  go_wp2
  go_loopg [3, 4] k (fun kq v3 v4 w' => ∃ (x3_1 : Int) (x4_1 : Int), v3 = .int .i64 x3_1 ∧ v4 = .int .i64 x4_1 ∧ Aside0 (spec_l1New.l0 kq l0 x3_1 x4_1 = some (r1, r2, r3)) ∧ Aside0 (kq ≤ k) ∧ Aside0 (Below w0.heap.size w0 w') ∧ Aside0 (Below w.heap.size w w'))
  case atStart => exact ⟨(wrap64 (193017 + (l0.length : Int))), (0), (by first | rfl | (simp; done) | (simp [*]; done)), (by first | rfl | (simp; done) | (simp [*]; done)), H', ⟨Nat.le_refl _⟩, ⟨by repeat (first | (with_reducible first | exact HB.out | apply QC | apply QB | apply QD) | exact HB.out)⟩, ⟨by repeat (first | (with_reducible first | exact HBW.out | apply QC | apply QB | apply QD) | exact HBW.out)⟩⟩
  case round =>
    clear H'
    try clear c1
    obtain ⟨x3_1, x4_1, rfl, rfl, HA, HK1, HB, HBW⟩ := hrel
    cases gk with
    | zero => exact absurd HA.out (by simp [spec_l1New.l0])
    | succ k1 =>
      have H := HA.out
      clear HA
      simp only [spec_l1New.l0] at H
      by_cases c2 : x4_1 < (l0.length : Int)
      · rw [if_pos c2] at H
        have c2b0 : decide (x4_1 < (l0.length : Int)) = true := decide_eq_true c2
        clear c2
        by_cases c3 : x4_1 < 4000
        · rw [if_pos c3] at H
          have c3b0 : decide (x4_1 < 4000) = true := decide_eq_true c3
          clear c3
          by_cases c4 : 0 ≤ x4_1
          · rw [if_pos c4] at H
            have c4b0 : decide (0 ≤ x4_1) = true := decide_eq_true c4
            clear c4
            have H' := QU H
            clear H
            have p102 : 0 ≤ (x4_1 : Int) := of_decide_eq_true (by first | (with_reducible assumption) | assumption)
            have q102 : x4_1 < (l0.length : Int) := of_decide_eq_true (by first | (with_reducible assumption) | assumption)
            obtain ⟨ad102, e102, hx102_0⟩ := Kd.at_int HR0.out x4_1 p102 q102
            cases e102
            replace hx102_0 := pw_cell_below HB.out hx102_0
            replace p102 := eq_true p102
            replace q102 := eq_true q102
            go_wp2
            go_roundg k1
            case measure => have := HK1.out; omega
            case rel => exact ⟨(Go.bits .and .i64 (wrap64 ((wrap64 ((wrap64 (x3_1 * 137)) + (wrap64 (rd l0 x4_1)))) + 11)) 1073741823), (wrap64 (x4_1 + 1)), (by first | rfl | (simp; done) | (simp [*]; done)), (by first | rfl | (simp; done) | (simp [*]; done)), H', ⟨by have := HK1.out; omega⟩, ⟨by repeat (first | (with_reducible first | exact HB.out | apply QC | apply QB | apply QD) | exact HB.out)⟩, ⟨by repeat (first | (with_reducible first | exact HBW.out | apply QC | apply QB | apply QD) | exact HBW.out)⟩⟩
          · rw [if_neg c4] at H
            exact absurd H (by simp)
        · rw [if_neg c3] at H
          have c3b0 : decide (x4_1 < 4000) = false := decide_eq_false c3
          clear c3
          simp only [Option.some.injEq, Prod.mk.injEq] at H
          obtain ⟨rfl, rfl, rfl⟩ := H
          go_wp2_with (first | ((with_reducible refine gate_dst (N := 31) rfl ?_); refine box_event ?hg (N := 31) ?hd (cs := #[.slice A0 l0.length c0, .int .i64 0, .int .i64 x3_1]) (t := 123) ?hr ?_; (case hd => rfl); (case hg => rfl); (case hr => first | (go_simp; done) | (go_simp; rfl)); intro gb103 hg w5 hbox hb; have n0_ := QU (below_step HBW.out hb); have n1_ := QU (below_step (by repeat (first | (with_reducible first | exact HB.out | apply QC | apply QB | apply QD) | exact HB.out)) hb); have n2_ := QU (hbox); have n3_ := QU ((by rw [hg]; exact (below_size (by repeat (first | (with_reducible first | exact HBW.out | apply QC | apply QB | apply QD) | exact HBW.out))) : w.heap.size ≤ gb103)); have n4_ := QU ((Nat.le_trans HW0.out (by rw [hg]; exact (below_size (by repeat (first | (with_reducible first | exact HBW.out | apply QC | apply QB | apply QD) | exact HBW.out))) : w.heap.size ≤ gb103) : w0.heap.size ≤ gb103)); clear HBW; clear HB; have HBW := n0_; have HB := n1_; have BK103 := n2_; have GW103 := n3_; have GE103 := n4_; clear n0_ n1_ n2_ n3_ n4_; clear hb hbox hg))
          go_ret
          exact ⟨_, rfl, (show IsS123 w0 _ gb103 l0 0 x3_1 from ⟨_, _, by (with_reducible repeat (first | refine QI ?_ _ | refine QL ?_ | refine QJ ?_ _)); exact BK103.out, GE103.out, HR0.out⟩), by repeat (first | (with_reducible first | exact HB.out | apply QC | apply QB | apply QD | refine QG ?_ GE103.out) | exact HB.out), by repeat (first | (with_reducible first | exact HBW.out | apply QC | apply QB | apply QD | refine QG ?_ GW103.out) | exact HBW.out)⟩
      · rw [if_neg c2] at H
        have c2b0 : decide (x4_1 < (l0.length : Int)) = false := decide_eq_false c2
        clear c2
        simp only [Option.some.injEq, Prod.mk.injEq] at H
        obtain ⟨rfl, rfl, rfl⟩ := H
        go_wp2_with (first | ((with_reducible refine gate_dst (N := 31) rfl ?_); refine box_event ?hg (N := 31) ?hd (cs := #[.slice A0 l0.length c0, .int .i64 0, .int .i64 x3_1]) (t := 123) ?hr ?_; (case hd => rfl); (case hg => rfl); (case hr => first | (go_simp; done) | (go_simp; rfl)); intro gb104 hg w6 hbox hb; have n0_ := QU (below_step HBW.out hb); have n1_ := QU (below_step (by repeat (first | (with_reducible first | exact HB.out | apply QC | apply QB | apply QD) | exact HB.out)) hb); have n2_ := QU (hbox); have n3_ := QU ((by rw [hg]; exact (below_size (by repeat (first | (with_reducible first | exact HBW.out | apply QC | apply QB | apply QD) | exact HBW.out))) : w.heap.size ≤ gb104)); have n4_ := QU ((Nat.le_trans HW0.out (by rw [hg]; exact (below_size (by repeat (first | (with_reducible first | exact HBW.out | apply QC | apply QB | apply QD) | exact HBW.out))) : w.heap.size ≤ gb104) : w0.heap.size ≤ gb104)); clear HBW; clear HB; have HBW := n0_; have HB := n1_; have BK104 := n2_; have GW104 := n3_; have GE104 := n4_; clear n0_ n1_ n2_ n3_ n4_; clear hb hbox hg))
        go_ret
        exact ⟨_, rfl, (show IsS123 w0 _ gb104 l0 0 x3_1 from ⟨_, _, by (with_reducible repeat (first | refine QI ?_ _ | refine QL ?_ | refine QJ ?_ _)); exact BK104.out, GE104.out, HR0.out⟩), by repeat (first | (with_reducible first | exact HB.out | apply QC | apply QB | apply QD | refine QG ?_ GE104.out) | exact HB.out), by repeat (first | (with_reducible first | exact HBW.out | apply QC | apply QB | apply QD | refine QG ?_ GW104.out) | exact HBW.out)⟩

/-! ### spec_l1Byte: function 154 -/
def spec_l1Byte.f (s0_0 : List Int) (s0_1 : Int) (s0_2 : Int) : Option (Int × Int × Int) := if s0_1 < (s0_0.length : Int) then (if 0 ≤ s0_1 then (some (Go.bits .and .i64 (wrap64 ((Go.bits .and .i64 (Go.bits .xor .i64 ((wrap64 ((wrap64 (s0_2 * 6364136223846793005)) + 1442695040888963407)) / 8589934592) ((wrap64 ((wrap64 (s0_2 * 6364136223846793005)) + 1442695040888963407)) / 140737488355328)) 255) + (wrap64 (rd s0_0 s0_1)))) 255, wrap64 (s0_1 + 1), wrap64 ((wrap64 (s0_2 * 6364136223846793005)) + 1442695040888963407))) else (none)) else (some (Go.bits .and .i64 (Go.bits .xor .i64 ((wrap64 ((wrap64 (s0_2 * 6364136223846793005)) + 1442695040888963407)) / 8589934592) ((wrap64 ((wrap64 (s0_2 * 6364136223846793005)) + 1442695040888963407)) / 140737488355328)) 255, s0_1, wrap64 ((wrap64 (s0_2 * 6364136223846793005)) + 1442695040888963407)))
set_option maxHeartbeats 8000000 in
set_option maxRecDepth 100000 in
theorem spec_l1Byte.calls (g : Nat) (s0_0 : List Int) (s0_1 : Int) (s0_2 : Int) (r1 : Int) (r2 : Int) (r3 : Int) (w0 w : World) (hI : IsS123 w0 w g s0_0 s0_1 s0_2) (hB : Below w0.heap.size w0 w) (h : spec_l1Byte.f s0_0 s0_1 s0_2 = some (r1, r2, r3)) :
    Calls Try.prog 154 #[.pointer (some ⟨g, 0, none⟩)] w fun e w' => e = .returned (.int .i64 r1) ∧ IsS123 w0 w' g s0_0 r2 r3 ∧ Below w0.heap.size w0 w' ∧ KeepBut w w' g none := by
  have HI0 := QU hI
  have HK := QU (KeepBut.refl w g none)
  have HL := QU hB.size
  clear hI
  have HW0 := QU hB.size
  have HB := QU hB
  clear hB
  have H : (if s0_1 < (s0_0.length : Int) then (if 0 ≤ s0_1 then (some (Go.bits .and .i64 (wrap64 ((Go.bits .and .i64 (Go.bits .xor .i64 ((wrap64 ((wrap64 (s0_2 * 6364136223846793005)) + 1442695040888963407)) / 8589934592) ((wrap64 ((wrap64 (s0_2 * 6364136223846793005)) + 1442695040888963407)) / 140737488355328)) 255) + (wrap64 (rd s0_0 s0_1)))) 255, wrap64 (s0_1 + 1), wrap64 ((wrap64 (s0_2 * 6364136223846793005)) + 1442695040888963407))) else (none)) else (some (Go.bits .and .i64 (Go.bits .xor .i64 ((wrap64 ((wrap64 (s0_2 * 6364136223846793005)) + 1442695040888963407)) / 8589934592) ((wrap64 ((wrap64 (s0_2 * 6364136223846793005)) + 1442695040888963407)) / 140737488355328)) 255, s0_1, wrap64 ((wrap64 (s0_2 * 6364136223846793005)) + 1442695040888963407)))) = some (r1, r2, r3) := h
  clear h
  by_cases c2 : s0_1 < (s0_0.length : Int)
  · rw [if_pos c2] at H
    have c2b0 : decide (s0_1 < (s0_0.length : Int)) = true := decide_eq_true c2
    clear c2
    by_cases c3 : 0 ≤ s0_1
    · rw [if_pos c3] at H
      have c3b0 : decide (0 ≤ s0_1) = true := decide_eq_true c3
      clear c3
      simp only [Option.some.injEq, Prod.mk.injEq] at H
      obtain ⟨rfl, rfl, rfl⟩ := H
      obtain ⟨ASz4_0, cSz4_0, HGz4, hgz4, HSz4_0⟩ := HI0.out
      have hcz4_0 := cellS123_0 HGz4
      have hcz4_1 := cellS123_1 HGz4
      have hcz4_2 := cellS123_2 HGz4
      have hfz4_1 := QK HGz4 1
      have hfz4_2 := QK HGz4 2
      clear HGz4 hgz4
      have p105 : 0 ≤ (s0_1 : Int) := of_decide_eq_true (by first | (with_reducible assumption) | assumption)
      have q105 : s0_1 < (s0_0.length : Int) := of_decide_eq_true (by first | (with_reducible assumption) | assumption)
      obtain ⟨ad105, e105, hx105_0⟩ := Kd.at_int HSz4_0 s0_1 p105 q105
      cases e105
      have hn105_0 : ad105.block ≠ g := Nat.ne_of_lt (Nat.lt_of_lt_of_le (by have := World.block_lt_of_cell? _ _ hx105_0; first | rwa [add_block] at this | exact this) (IsS123.ge HI0.out))
      replace hx105_0 := pw_cell_below HB.out hx105_0
      replace hx105_0 := (cell_far (p := ⟨g, 2, none⟩) (by first | (rw [add_block]; exact hn105_0) | (show (Addr.add _ _).block ≠ _; rw [add_block]; exact hn105_0) | exact hn105_0) (.int .i64 (wrap64 ((wrap64 (s0_2 * 6364136223846793005)) + 1442695040888963407)))).trans hx105_0
      (try have hy105_0 := fun (n_ : Nat) => (show (((w.drewN n_).setCell ⟨g, 2, none⟩ (.int .i64 (wrap64 ((wrap64 (s0_2 * 6364136223846793005)) + 1442695040888963407))))).cell? _ = some _ from hx105_0))
      clear hn105_0
      replace p105 := eq_true p105
      replace q105 := eq_true q105
      go_enter Try.func154, Try.ntmps154
      go_wp2
      repeat (go_quiet (fail); try go_wp2)
      go_ret
      exact ⟨by first | rfl | (simp [errW_none, errW_some] <;> rfl) | (simp [*, errW_none, errW_some] <;> rfl), by repeat (first | (with_reducible first | exact HI0.out | apply IsS123.alloc | apply IsS123.drewN | apply IsS123.drew | apply IsS123.set_1 | apply IsS123.set_2) | exact HI0.out), by repeat (first | (with_reducible first | exact HB.out | apply QC | apply QB | apply QD | refine QG ?_ (IsS123.ge HI0.out)) | exact HB.out), by repeat (first | (with_reducible first | exact HK.out | apply KeepBut.set_ | apply QE | apply QH | apply QF) | exact HK.out)⟩
    · rw [if_neg c3] at H
      exact absurd H (by simp)
  · rw [if_neg c2] at H
    have c2b0 : decide (s0_1 < (s0_0.length : Int)) = false := decide_eq_false c2
    clear c2
    simp only [Option.some.injEq, Prod.mk.injEq] at H
    obtain ⟨rfl, rfl, rfl⟩ := H
    obtain ⟨ASz5_0, cSz5_0, HGz5, hgz5, HSz5_0⟩ := HI0.out
    have hcz5_0 := cellS123_0 HGz5
    have hcz5_1 := cellS123_1 HGz5
    have hcz5_2 := cellS123_2 HGz5
    have hfz5_1 := QK HGz5 1
    have hfz5_2 := QK HGz5 2
    clear HGz5 hgz5
    go_enter Try.func154, Try.ntmps154
    go_wp2
    repeat (go_quiet (fail); try go_wp2)
    go_ret
    exact ⟨by first | rfl | (simp [errW_none, errW_some] <;> rfl) | (simp [*, errW_none, errW_some] <;> rfl), by repeat (first | (with_reducible first | exact HI0.out | apply IsS123.alloc | apply IsS123.drewN | apply IsS123.drew | apply IsS123.set_1 | apply IsS123.set_2) | exact HI0.out), by repeat (first | (with_reducible first | exact HB.out | apply QC | apply QB | apply QD | refine QG ?_ (IsS123.ge HI0.out)) | exact HB.out), by repeat (first | (with_reducible first | exact HK.out | apply KeepBut.set_ | apply QE | apply QH | apply QF) | exact HK.out)⟩

/-! ### spec_l1Below: function 140 -/
def spec_l1Below.f (s0_0 : List Int) (s0_1 : Int) (s0_2 : Int) (a1 : Int) : Option (Int × Int × Int) := if a1 ≤ 0 then (some (0, s0_1, s0_2)) else (if a1 ≤ 256 then ((spec_l1Byte.f s0_0 s0_1 s0_2).bind fun bt106 => (if a1 = 0 then (none) else (some (Int.tmod bt106.1 a1, bt106.2.1, bt106.2.2)))) else ((spec_l1Byte.f s0_0 s0_1 s0_2).bind fun bt109 => ((spec_l1Byte.f s0_0 bt109.2.1 bt109.2.2).bind fun bt112 => ((spec_l1Byte.f s0_0 bt112.2.1 bt112.2.2).bind fun bt115 => (if a1 = 0 then (none) else (some (Int.tmod (wrap64 ((wrap64 ((wrap64 (bt109.1 * 65536)) + (wrap64 (bt112.1 * 256)))) + bt115.1)) a1, bt115.2.1, bt115.2.2)))))))
set_option maxHeartbeats 8000000 in
set_option maxRecDepth 100000 in
theorem spec_l1Below.calls (g : Nat) (s0_0 : List Int) (s0_1 : Int) (s0_2 : Int) (a1 : Int) (r1 : Int) (r2 : Int) (r3 : Int) (w0 w : World) (hI : IsS123 w0 w g s0_0 s0_1 s0_2) (hB : Below w0.heap.size w0 w) (h : spec_l1Below.f s0_0 s0_1 s0_2 a1 = some (r1, r2, r3)) :
    Calls Try.prog 140 #[.pointer (some ⟨g, 0, none⟩), .int .i64 a1] w fun e w' => e = .returned (.int .i64 r1) ∧ IsS123 w0 w' g s0_0 r2 r3 ∧ Below w0.heap.size w0 w' ∧ KeepBut w w' g none := by
  have HI0 := QU hI
  have HK := QU (KeepBut.refl w g none)
  have HL := QU hB.size
  clear hI
  have HW0 := QU hB.size
  have HB := QU hB
  clear hB
  have H : (if a1 ≤ 0 then (some (0, s0_1, s0_2)) else (if a1 ≤ 256 then ((spec_l1Byte.f s0_0 s0_1 s0_2).bind fun bt106 => (if a1 = 0 then (none) else (some (Int.tmod bt106.1 a1, bt106.2.1, bt106.2.2)))) else ((spec_l1Byte.f s0_0 s0_1 s0_2).bind fun bt109 => ((spec_l1Byte.f s0_0 bt109.2.1 bt109.2.2).bind fun bt112 => ((spec_l1Byte.f s0_0 bt112.2.1 bt112.2.2).bind fun bt115 => (if a1 = 0 then (none) else (some (Int.tmod (wrap64 ((wrap64 ((wrap64 (bt109.1 * 65536)) + (wrap64 (bt112.1 * 256)))) + bt115.1)) a1, bt115.2.1, bt115.2.2)))))))) = some (r1, r2, r3) := h
  clear h
  by_cases c3 : a1 ≤ 0
  · rw [if_pos c3] at H
    have c3b0 : decide (a1 ≤ 0) = true := decide_eq_true c3
    clear c3
    simp only [Option.some.injEq, Prod.mk.injEq] at H
    obtain ⟨rfl, rfl, rfl⟩ := H
    go_enter Try.func140, Try.ntmps140
    go_wp2
    go_ret
    exact ⟨by first | rfl | (simp [errW_none, errW_some] <;> rfl) | (simp [*, errW_none, errW_some] <;> rfl), by repeat (first | (with_reducible first | exact HI0.out | apply IsS123.alloc | apply IsS123.drewN | apply IsS123.drew | apply IsS123.set_1 | apply IsS123.set_2) | exact HI0.out), by repeat (first | (with_reducible first | exact HB.out | apply QC | apply QB | apply QD | refine QG ?_ (IsS123.ge HI0.out)) | exact HB.out), by repeat (first | (with_reducible first | exact HK.out | apply KeepBut.set_ | apply QE | apply QH | apply QF) | exact HK.out)⟩
  · rw [if_neg c3] at H
    have c3b0 : decide (a1 ≤ 0) = false := decide_eq_false c3
    clear c3
    by_cases c4 : a1 ≤ 256
    · rw [if_pos c4] at H
      have c4b0 : decide (a1 ≤ 256) = true := decide_eq_true c4
      clear c4
      replace H := QV.mp H
      obtain ⟨⟨t106, t107, t108⟩, A50, H⟩ := H
      replace H : (if a1 = 0 then (none) else (some (Int.tmod t106 a1, t107, t108))) = some (r1, r2, r3) := H
      have A5 := QU A50
      clear A50
      by_cases c6 : a1 = 0
      · rw [if_pos c6] at H
        exact absurd H (by simp)
      · rw [if_neg c6] at H
        have c6b0 : (a1 == 0) = false := beq_eq_false_iff_ne.mpr c6
        have c6b1 : (a1 != 0) = true := bne_iff_ne.mpr c6
        simp only [Option.some.injEq, Prod.mk.injEq] at H
        obtain ⟨rfl, rfl, rfl⟩ := H
        go_enter Try.func140, Try.ntmps140
        go_wp2_with (first | ((with_reducible refine QM (f := 154) rfl ?_); refine goesL_ (some 13) rfl rfl Try.func154 (by kernel_rfl) rfl #[.pointer (some ⟨g, 0, none⟩)] rfl (by (try simp only [List.map_toArray, List.map_cons, List.map_nil]); first | done | rfl | (simp only [List.length_drop, List.length_take]; rfl)) ?_; (with_reducible refine (spec_l1Byte.calls g s0_0 s0_1 s0_2 t106 t107 t108 w0 _ ?side1 ?side2 A5.out).mono ?_); (case side1 => repeat (first | (with_reducible first | exact HI0.out | apply IsS123.alloc | apply IsS123.drewN | apply IsS123.drew | apply IsS123.set_1 | apply IsS123.set_2) | exact HI0.out)); (case side2 => repeat (first | (with_reducible first | exact HB.out | apply QC | apply QB | apply QD | refine QG ?_ (IsS123.ge HI0.out)) | exact HB.out)); rintro e w7 ⟨rfl, hi, hb, hk⟩; refine ⟨_, rfl, ?_⟩; have n0_ := QU (KeepBut.trans (by repeat (first | (with_reducible first | exact HK.out | apply KeepBut.set_ | apply QE | apply QH | apply QF) | exact HK.out)) hk (.inl rfl)); have n1_ := QU (hb); have n2_ := QU (hi); clear HK; clear HB; clear HI0; have HK := n0_; have HB := n1_; have HI0 := n2_; clear n0_ n1_ n2_; (try clear hb); (try clear hb2); (try clear hk); (try clear hi)))
        go_ret
        exact ⟨by first | rfl | (simp [errW_none, errW_some] <;> rfl) | (simp [*, errW_none, errW_some] <;> rfl), by repeat (first | (with_reducible first | exact HI0.out | apply IsS123.alloc | apply IsS123.drewN | apply IsS123.drew | apply IsS123.set_1 | apply IsS123.set_2) | exact HI0.out), by repeat (first | (with_reducible first | exact HB.out | apply QC | apply QB | apply QD | refine QG ?_ (IsS123.ge HI0.out)) | exact HB.out), by repeat (first | (with_reducible first | exact HK.out | apply KeepBut.set_ | apply QE | apply QH | apply QF) | exact HK.out)⟩
    · rw [if_neg c4] at H
      have c4b0 : decide (a1 ≤ 256) = false := decide_eq_false c4
      clear c4
      replace H := QV.mp H
      obtain ⟨⟨t109, t110, t111⟩, A80, H⟩ := H
      replace H : ((spec_l1Byte.f s0_0 t110 t111).bind fun bt112 => ((spec_l1Byte.f s0_0 bt112.2.1 bt112.2.2).bind fun bt115 => (if a1 = 0 then (none) else (some (Int.tmod (wrap64 ((wrap64 ((wrap64 (t109 * 65536)) + (wrap64 (bt112.1 * 256)))) + bt115.1)) a1, bt115.2.1, bt115.2.2))))) = some (r1, r2, r3) := H
      have A8 := QU A80
      clear A80
      replace H := QV.mp H
      obtain ⟨⟨t112, t113, t114⟩, A90, H⟩ := H
      replace H : ((spec_l1Byte.f s0_0 t113 t114).bind fun bt115 => (if a1 = 0 then (none) else (some (Int.tmod (wrap64 ((wrap64 ((wrap64 (t109 * 65536)) + (wrap64 (t112 * 256)))) + bt115.1)) a1, bt115.2.1, bt115.2.2)))) = some (r1, r2, r3) := H
      have A9 := QU A90
      clear A90
      replace H := QV.mp H
      obtain ⟨⟨t115, t116, t117⟩, A100, H⟩ := H
      replace H : (if a1 = 0 then (none) else (some (Int.tmod (wrap64 ((wrap64 ((wrap64 (t109 * 65536)) + (wrap64 (t112 * 256)))) + t115)) a1, t116, t117))) = some (r1, r2, r3) := H
      have A10 := QU A100
      clear A100
      by_cases c11 : a1 = 0
      · rw [if_pos c11] at H
        exact absurd H (by simp)
      · rw [if_neg c11] at H
        have c11b0 : (a1 == 0) = false := beq_eq_false_iff_ne.mpr c11
        have c11b1 : (a1 != 0) = true := bne_iff_ne.mpr c11
        simp only [Option.some.injEq, Prod.mk.injEq] at H
        obtain ⟨rfl, rfl, rfl⟩ := H
        go_enter Try.func140, Try.ntmps140
        go_wp2_with (first | ((with_reducible refine QM (f := 154) rfl ?_); refine goesL_ (some 17) rfl rfl Try.func154 (by kernel_rfl) rfl #[.pointer (some ⟨g, 0, none⟩)] rfl (by (try simp only [List.map_toArray, List.map_cons, List.map_nil]); first | done | rfl | (simp only [List.length_drop, List.length_take]; rfl)) ?_; (with_reducible refine (spec_l1Byte.calls g s0_0 s0_1 s0_2 t109 t110 t111 w0 _ ?side1 ?side2 A8.out).mono ?_); (case side1 => repeat (first | (with_reducible first | exact HI0.out | apply IsS123.alloc | apply IsS123.drewN | apply IsS123.drew | apply IsS123.set_1 | apply IsS123.set_2) | exact HI0.out)); (case side2 => repeat (first | (with_reducible first | exact HB.out | apply QC | apply QB | apply QD | refine QG ?_ (IsS123.ge HI0.out)) | exact HB.out)); rintro e w12 ⟨rfl, hi, hb, hk⟩; refine ⟨_, rfl, ?_⟩; have n0_ := QU (KeepBut.trans (by repeat (first | (with_reducible first | exact HK.out | apply KeepBut.set_ | apply QE | apply QH | apply QF) | exact HK.out)) hk (.inl rfl)); have n1_ := QU (hb); have n2_ := QU (hi); clear HK; clear HB; clear HI0; have HK := n0_; have HB := n1_; have HI0 := n2_; clear n0_ n1_ n2_; (try clear hb); (try clear hb2); (try clear hk); (try clear hi)) | ((with_reducible refine QM (f := 154) rfl ?_); refine goesL_ (some 19) rfl rfl Try.func154 (by kernel_rfl) rfl #[.pointer (some ⟨g, 0, none⟩)] rfl (by (try simp only [List.map_toArray, List.map_cons, List.map_nil]); first | done | rfl | (simp only [List.length_drop, List.length_take]; rfl)) ?_; (with_reducible refine (spec_l1Byte.calls g s0_0 t110 t111 t112 t113 t114 w0 _ ?side1 ?side2 A9.out).mono ?_); (case side1 => repeat (first | (with_reducible first | exact HI0.out | apply IsS123.alloc | apply IsS123.drewN | apply IsS123.drew | apply IsS123.set_1 | apply IsS123.set_2) | exact HI0.out)); (case side2 => repeat (first | (with_reducible first | exact HB.out | apply QC | apply QB | apply QD | refine QG ?_ (IsS123.ge HI0.out)) | exact HB.out)); rintro e w13 ⟨rfl, hi, hb, hk⟩; refine ⟨_, rfl, ?_⟩; have n0_ := QU (KeepBut.trans (by repeat (first | (with_reducible first | exact HK.out | apply KeepBut.set_ | apply QE | apply QH | apply QF) | exact HK.out)) hk (.inl rfl)); have n1_ := QU (hb); have n2_ := QU (hi); clear HK; clear HB; clear HI0; have HK := n0_; have HB := n1_; have HI0 := n2_; clear n0_ n1_ n2_; (try clear hb); (try clear hb2); (try clear hk); (try clear hi)) | ((with_reducible refine QM (f := 154) rfl ?_); refine goesL_ (some 21) rfl rfl Try.func154 (by kernel_rfl) rfl #[.pointer (some ⟨g, 0, none⟩)] rfl (by (try simp only [List.map_toArray, List.map_cons, List.map_nil]); first | done | rfl | (simp only [List.length_drop, List.length_take]; rfl)) ?_; (with_reducible refine (spec_l1Byte.calls g s0_0 t113 t114 t115 t116 t117 w0 _ ?side1 ?side2 A10.out).mono ?_); (case side1 => repeat (first | (with_reducible first | exact HI0.out | apply IsS123.alloc | apply IsS123.drewN | apply IsS123.drew | apply IsS123.set_1 | apply IsS123.set_2) | exact HI0.out)); (case side2 => repeat (first | (with_reducible first | exact HB.out | apply QC | apply QB | apply QD | refine QG ?_ (IsS123.ge HI0.out)) | exact HB.out)); rintro e w14 ⟨rfl, hi, hb, hk⟩; refine ⟨_, rfl, ?_⟩; have n0_ := QU (KeepBut.trans (by repeat (first | (with_reducible first | exact HK.out | apply KeepBut.set_ | apply QE | apply QH | apply QF) | exact HK.out)) hk (.inl rfl)); have n1_ := QU (hb); have n2_ := QU (hi); clear HK; clear HB; clear HI0; have HK := n0_; have HB := n1_; have HI0 := n2_; clear n0_ n1_ n2_; (try clear hb); (try clear hb2); (try clear hk); (try clear hi)))
        go_ret
        exact ⟨by first | rfl | (simp [errW_none, errW_some] <;> rfl) | (simp [*, errW_none, errW_some] <;> rfl), by repeat (first | (with_reducible first | exact HI0.out | apply IsS123.alloc | apply IsS123.drewN | apply IsS123.drew | apply IsS123.set_1 | apply IsS123.set_2) | exact HI0.out), by repeat (first | (with_reducible first | exact HB.out | apply QC | apply QB | apply QD | refine QG ?_ (IsS123.ge HI0.out)) | exact HB.out), by repeat (first | (with_reducible first | exact HK.out | apply KeepBut.set_ | apply QE | apply QH | apply QF) | exact HK.out)⟩

/-! ### spec_l1Once: function 128 -/
def spec_l1Once.f (s0_0 : List Int) (s0_1 : Int) (s0_2 : Int) (a1 : Int) : Option (Bool × Int × Int) := (spec_l1Below.f s0_0 s0_1 s0_2 a1).bind fun bt118 => (some ((bt118.1 == 0), bt118.2.1, bt118.2.2))
set_option maxHeartbeats 8000000 in
set_option maxRecDepth 100000 in
theorem spec_l1Once.calls (g : Nat) (s0_0 : List Int) (s0_1 : Int) (s0_2 : Int) (a1 : Int) (r1 : Bool) (r2 : Int) (r3 : Int) (w0 w : World) (hI : IsS123 w0 w g s0_0 s0_1 s0_2) (hB : Below w0.heap.size w0 w) (h : spec_l1Once.f s0_0 s0_1 s0_2 a1 = some (r1, r2, r3)) :
    Calls Try.prog 128 #[.pointer (some ⟨g, 0, none⟩), .int .i64 a1] w fun e w' => e = .returned (.bool r1) ∧ IsS123 w0 w' g s0_0 r2 r3 ∧ Below w0.heap.size w0 w' ∧ KeepBut w w' g none := by
  have HI0 := QU hI
  have HK := QU (KeepBut.refl w g none)
  have HL := QU hB.size
  clear hI
  have HW0 := QU hB.size
  have HB := QU hB
  clear hB
  have H : ((spec_l1Below.f s0_0 s0_1 s0_2 a1).bind fun bt118 => (some ((bt118.1 == 0), bt118.2.1, bt118.2.2))) = some (r1, r2, r3) := h
  clear h
  replace H := QV.mp H
  obtain ⟨⟨t118, t119, t120⟩, A30, H⟩ := H
  replace H : (some ((t118 == 0), t119, t120)) = some (r1, r2, r3) := H
  have A3 := QU A30
  clear A30
  simp only [Option.some.injEq, Prod.mk.injEq] at H
  obtain ⟨rfl, rfl, rfl⟩ := H
  go_enter Try.func128, Try.ntmps128
  go_wp2_with (first | ((with_reducible refine QM (f := 140) rfl ?_); refine goesL_ (some 7) rfl rfl Try.func140 (by kernel_rfl) rfl #[.pointer (some ⟨g, 0, none⟩), .int .i64 a1] rfl (by (try simp only [List.map_toArray, List.map_cons, List.map_nil]); first | done | rfl | (simp only [List.length_drop, List.length_take]; rfl)) ?_; (with_reducible refine (spec_l1Below.calls g s0_0 s0_1 s0_2 a1 t118 t119 t120 w0 _ ?side1 ?side2 A3.out).mono ?_); (case side1 => repeat (first | (with_reducible first | exact HI0.out | apply IsS123.alloc | apply IsS123.drewN | apply IsS123.drew | apply IsS123.set_1 | apply IsS123.set_2) | exact HI0.out)); (case side2 => repeat (first | (with_reducible first | exact HB.out | apply QC | apply QB | apply QD | refine QG ?_ (IsS123.ge HI0.out)) | exact HB.out)); rintro e w4 ⟨rfl, hi, hb, hk⟩; refine ⟨_, rfl, ?_⟩; have n0_ := QU (KeepBut.trans (by repeat (first | (with_reducible first | exact HK.out | apply KeepBut.set_ | apply QE | apply QH | apply QF) | exact HK.out)) hk (.inl rfl)); have n1_ := QU (hb); have n2_ := QU (hi); clear HK; clear HB; clear HI0; have HK := n0_; have HB := n1_; have HI0 := n2_; clear n0_ n1_ n2_; (try clear hb); (try clear hb2); (try clear hk); (try clear hi)))
  go_ret
  exact ⟨by first | rfl | (simp [errW_none, errW_some] <;> rfl) | (simp [*, errW_none, errW_some] <;> rfl), by repeat (first | (with_reducible first | exact HI0.out | apply IsS123.alloc | apply IsS123.drewN | apply IsS123.drew | apply IsS123.set_1 | apply IsS123.set_2) | exact HI0.out), by repeat (first | (with_reducible first | exact HB.out | apply QC | apply QB | apply QD | refine QG ?_ (IsS123.ge HI0.out)) | exact HB.out), by repeat (first | (with_reducible first | exact HK.out | apply KeepBut.set_ | apply QE | apply QH | apply QF) | exact HK.out)⟩

/-! ### spec_l1Int: function 148 -/
def spec_l1Int.f (s0_0 : List Int) (s0_1 : Int) (s0_2 : Int) (l1 : List Int) : Option (Int × Int × Int) := (spec_l1Below.f s0_0 s0_1 s0_2 (l1.length : Int)).bind fun bt121 => (if 0 ≤ bt121.1 then (if bt121.1 < (l1.length : Int) then (some (rd l1 bt121.1, bt121.2.1, bt121.2.2)) else (none)) else (none))
set_option maxHeartbeats 8000000 in
set_option maxRecDepth 100000 in
theorem spec_l1Int.calls (g : Nat) (s0_0 : List Int) (s0_1 : Int) (s0_2 : Int) (A1 : Option Addr) (c1 : Nat) (l1 : List Int) (r1 : Int) (r2 : Int) (r3 : Int) (w0 w : World) (hI : IsS123 w0 w g s0_0 s0_1 s0_2) (hB : Below w0.heap.size w0 w) (hr1 : Kd.C (Kd.int .i64) w A1 l1.length l1) (hc1 : l1.length ≤ c1) (hf1 : ∀ ad, A1 = some ad → 0 < l1.length → ad.block ≠ g) (h : spec_l1Int.f s0_0 s0_1 s0_2 l1 = some (r1, r2, r3)) :
    Calls Try.prog 148 #[.pointer (some ⟨g, 0, none⟩), .slice A1 l1.length c1] w fun e w' => e = .returned (.int .i64 r1) ∧ IsS123 w0 w' g s0_0 r2 r3 ∧ Below w0.heap.size w0 w' ∧ KeepBut w w' g none := by
  have HR1 := QU hr1
  have HC1 := QU hc1
  clear hr1 hc1
  have HI0 := QU hI
  have HK := QU (KeepBut.refl w g none)
  have HL := QU hB.size
  clear hI
  have HW0 := QU hB.size
  have HB := QU hB
  clear hB
  have H : ((spec_l1Below.f s0_0 s0_1 s0_2 (l1.length : Int)).bind fun bt121 => (if 0 ≤ bt121.1 then (if bt121.1 < (l1.length : Int) then (some (rd l1 bt121.1, bt121.2.1, bt121.2.2)) else (none)) else (none))) = some (r1, r2, r3) := h
  clear h
  replace H := QV.mp H
  obtain ⟨⟨t121, t122, t123⟩, A30, H⟩ := H
  replace H : (if 0 ≤ t121 then (if t121 < (l1.length : Int) then (some (rd l1 t121, t122, t123)) else (none)) else (none)) = some (r1, r2, r3) := H
  have A3 := QU A30
  clear A30
  by_cases c4 : 0 ≤ t121
  · rw [if_pos c4] at H
    have c4b0 : decide (0 ≤ t121) = true := decide_eq_true c4
    clear c4
    by_cases c5 : t121 < (l1.length : Int)
    · rw [if_pos c5] at H
      have c5b0 : decide (t121 < (l1.length : Int)) = true := decide_eq_true c5
      clear c5
      simp only [Option.some.injEq, Prod.mk.injEq] at H
      obtain ⟨rfl, rfl, rfl⟩ := H
      go_enter Try.func148, Try.ntmps148
      go_wp2_with (first | ((with_reducible refine QM (f := 140) rfl ?_); refine goesL_ (some 9) rfl rfl Try.func140 (by kernel_rfl) rfl #[.pointer (some ⟨g, 0, none⟩), .int .i64 (l1.length : Int)] rfl (by (try simp only [List.map_toArray, List.map_cons, List.map_nil]); first | done | rfl | (simp only [List.length_drop, List.length_take]; rfl)) ?_; (with_reducible refine (spec_l1Below.calls g s0_0 s0_1 s0_2 (l1.length : Int) t121 t122 t123 w0 _ ?side1 ?side2 A3.out).mono ?_); (case side1 => repeat (first | (with_reducible first | exact HI0.out | apply IsS123.alloc | apply IsS123.drewN | apply IsS123.drew | apply IsS123.set_1 | apply IsS123.set_2) | exact HI0.out)); (case side2 => repeat (first | (with_reducible first | exact HB.out | apply QC | apply QB | apply QD | refine QG ?_ (IsS123.ge HI0.out)) | exact HB.out)); rintro e w6 ⟨rfl, hi, hb, hk⟩; refine ⟨_, rfl, ?_⟩; have n0_ := QU (KeepBut.trans (by repeat (first | (with_reducible first | exact HK.out | apply KeepBut.set_ | apply QE | apply QH | apply QF) | exact HK.out)) hk (.inl rfl)); have n1_ := QU (hb); have n2_ := QU (hi); clear HK; clear HB; clear HI0; have HK := n0_; have HB := n1_; have HI0 := n2_; clear n0_ n1_ n2_; (try clear hb); (try clear hb2); (try clear hk); (try clear hi); have p124 : 0 ≤ (t121 : Int) := of_decide_eq_true (by first | (with_reducible assumption) | assumption); have q124 : t121 < (l1.length : Int) := of_decide_eq_true (by first | (with_reducible assumption) | assumption); obtain ⟨ad124, e124, hx124_0⟩ := Kd.at_int HR1.out t121 p124 q124; cases e124; replace hx124_0 := keep_cell HK.out hx124_0 (by first | (rw [add_block]; exact hf1 _ rfl (by omega)) | exact hf1 _ rfl (by omega) | exact hf1 ad124 rfl (by omega)); replace p124 := eq_true p124; replace q124 := eq_true q124))
      go_ret
      exact ⟨by first | rfl | (simp [errW_none, errW_some] <;> rfl) | (simp [*, errW_none, errW_some] <;> rfl), by repeat (first | (with_reducible first | exact HI0.out | apply IsS123.alloc | apply IsS123.drewN | apply IsS123.drew | apply IsS123.set_1 | apply IsS123.set_2) | exact HI0.out), by repeat (first | (with_reducible first | exact HB.out | apply QC | apply QB | apply QD | refine QG ?_ (IsS123.ge HI0.out)) | exact HB.out), by repeat (first | (with_reducible first | exact HK.out | apply KeepBut.set_ | apply QE | apply QH | apply QF) | exact HK.out)⟩
    · rw [if_neg c5] at H
      exact absurd H (by simp)
  · rw [if_neg c4] at H
    exact absurd H (by simp)

/-! ### spec_l8Leaves: function 159 -/
def spec_l8Leaves.f (s0_0 : List Int) (s0_1 : Int) (s0_2 : Int) : Option (Int × Int × Int) := (spec_l1Below.f s0_0 s0_1 s0_2 4).bind fun bt125 => ((spec_l1Below.f s0_0 bt125.2.1 bt125.2.2 13).bind fun bt128 => ((spec_l1Below.f s0_0 bt128.2.1 bt128.2.2 13).bind fun bt131 => ((spec_l1Int.f s0_0 bt131.2.1 bt131.2.2 (([wrap64 (100 + bt125.1), wrap64 (200 + bt128.1), wrap64 (300 + bt131.1), 400] : List Int))).bind fun bt137 => (some (bt137.1, bt137.2.1, bt137.2.2)))))
set_option maxHeartbeats 8000000 in
set_option maxRecDepth 100000 in
theorem spec_l8Leaves.calls (g : Nat) (s0_0 : List Int) (s0_1 : Int) (s0_2 : Int) (r1 : Int) (r2 : Int) (r3 : Int) (w0 w : World) (hI : IsS123 w0 w g s0_0 s0_1 s0_2) (hB : Below w0.heap.size w0 w) (h : spec_l8Leaves.f s0_0 s0_1 s0_2 = some (r1, r2, r3)) :
    Calls Try.prog 159 #[.pointer (some ⟨g, 0, none⟩)] w fun e w' => e = .returned (.int .i64 r1) ∧ IsS123 w0 w' g s0_0 r2 r3 ∧ Below w0.heap.size w0 w' ∧ KeepBut w w' g none := by
  have HI0 := QU hI
  have HK := QU (KeepBut.refl w g none)
  have HL := QU hB.size
  clear hI
  have HW0 := QU hB.size
  have HB := QU hB
  clear hB
  have H : ((spec_l1Below.f s0_0 s0_1 s0_2 4).bind fun bt125 => ((spec_l1Below.f s0_0 bt125.2.1 bt125.2.2 13).bind fun bt128 => ((spec_l1Below.f s0_0 bt128.2.1 bt128.2.2 13).bind fun bt131 => ((spec_l1Int.f s0_0 bt131.2.1 bt131.2.2 (([wrap64 (100 + bt125.1), wrap64 (200 + bt128.1), wrap64 (300 + bt131.1), 400] : List Int))).bind fun bt137 => (some (bt137.1, bt137.2.1, bt137.2.2)))))) = some (r1, r2, r3) := h
  clear h
  replace H := QV.mp H
  obtain ⟨⟨t125, t126, t127⟩, A20, H⟩ := H
  replace H : ((spec_l1Below.f s0_0 t126 t127 13).bind fun bt128 => ((spec_l1Below.f s0_0 bt128.2.1 bt128.2.2 13).bind fun bt131 => ((spec_l1Int.f s0_0 bt131.2.1 bt131.2.2 (([wrap64 (100 + t125), wrap64 (200 + bt128.1), wrap64 (300 + bt131.1), 400] : List Int))).bind fun bt137 => (some (bt137.1, bt137.2.1, bt137.2.2))))) = some (r1, r2, r3) := H
  have A2 := QU A20
  clear A20
  replace H := QV.mp H
  obtain ⟨⟨t128, t129, t130⟩, A30, H⟩ := H
  replace H : ((spec_l1Below.f s0_0 t129 t130 13).bind fun bt131 => ((spec_l1Int.f s0_0 bt131.2.1 bt131.2.2 (([wrap64 (100 + t125), wrap64 (200 + t128), wrap64 (300 + bt131.1), 400] : List Int))).bind fun bt137 => (some (bt137.1, bt137.2.1, bt137.2.2)))) = some (r1, r2, r3) := H
  have A3 := QU A30
  clear A30
  replace H := QV.mp H
  obtain ⟨⟨t131, t132, t133⟩, A40, H⟩ := H
  replace H : ((spec_l1Int.f s0_0 t132 t133 (([wrap64 (100 + t125), wrap64 (200 + t128), wrap64 (300 + t131), 400] : List Int))).bind fun bt137 => (some (bt137.1, bt137.2.1, bt137.2.2))) = some (r1, r2, r3) := H
  have A4 := QU A40
  clear A40
  obtain ⟨y134, hy134⟩ : ∃ y_ : List Int, y_ = (([wrap64 (100 + t125), wrap64 (200 + t128), wrap64 (300 + t131), 400] : List Int)) := ⟨_, rfl⟩
  replace H : ((spec_l1Int.f s0_0 t132 t133 y134).bind fun bt137 => (some (bt137.1, bt137.2.1, bt137.2.2))) = some (r1, r2, r3) := by first | (rw [hy134]; with_reducible exact H) | (have H2_ := (Option.bind_some _ _).symm.trans H; rw [hy134]; with_reducible exact H2_) | (have H2_ := (Option.bind_some _ _).symm.trans H; with_reducible exact H2_) | with_reducible exact H | (rw [hy134]; exact H) | exact H
  have Ny134 := QU hy134
  clear hy134
  replace H := QV.mp H
  obtain ⟨⟨t137, t138, t139⟩, A50, H⟩ := H
  replace H : (some (t137, t138, t139)) = some (r1, r2, r3) := H
  have A5 := QU A50
  clear A50
  simp only [Option.some.injEq, Prod.mk.injEq] at H
  obtain ⟨rfl, rfl, rfl⟩ := H
  go_enter Try.func159, Try.ntmps159
  go_wp2_with (first | ((with_reducible refine QM (f := 140) rfl ?_); refine goesL_ (some 5) rfl rfl Try.func140 (by kernel_rfl) rfl #[.pointer (some ⟨g, 0, none⟩), .int .i64 4] rfl (by (try simp only [List.map_toArray, List.map_cons, List.map_nil]); first | done | rfl | (simp only [List.length_drop, List.length_take]; rfl)) ?_; (with_reducible refine (spec_l1Below.calls g s0_0 s0_1 s0_2 4 t125 t126 t127 w0 _ ?side1 ?side2 A2.out).mono ?_); (case side1 => repeat (first | (with_reducible first | exact HI0.out | apply IsS123.alloc | apply IsS123.drewN | apply IsS123.drew | apply IsS123.set_1 | apply IsS123.set_2) | exact HI0.out)); (case side2 => repeat (first | (with_reducible first | exact HB.out | apply QC | apply QB | apply QD | refine QG ?_ (IsS123.ge HI0.out)) | exact HB.out)); rintro e w6 ⟨rfl, hi, hb, hk⟩; refine ⟨_, rfl, ?_⟩; have n0_ := QU (KeepBut.trans (by repeat (first | (with_reducible first | exact HK.out | apply KeepBut.set_ | apply QE | apply QH | apply QF) | exact HK.out)) hk (.inl rfl)); have n1_ := QU (hb); have n2_ := QU (hi); clear HK; clear HB; clear HI0; have HK := n0_; have HB := n1_; have HI0 := n2_; clear n0_ n1_ n2_; (try clear hb); (try clear hb2); (try clear hk); (try clear hi)) | ((with_reducible refine QM (f := 140) rfl ?_); refine goesL_ (some 8) rfl rfl Try.func140 (by kernel_rfl) rfl #[.pointer (some ⟨g, 0, none⟩), .int .i64 13] rfl (by (try simp only [List.map_toArray, List.map_cons, List.map_nil]); first | done | rfl | (simp only [List.length_drop, List.length_take]; rfl)) ?_; (with_reducible refine (spec_l1Below.calls g s0_0 t126 t127 13 t128 t129 t130 w0 _ ?side1 ?side2 A3.out).mono ?_); (case side1 => repeat (first | (with_reducible first | exact HI0.out | apply IsS123.alloc | apply IsS123.drewN | apply IsS123.drew | apply IsS123.set_1 | apply IsS123.set_2) | exact HI0.out)); (case side2 => repeat (first | (with_reducible first | exact HB.out | apply QC | apply QB | apply QD | refine QG ?_ (IsS123.ge HI0.out)) | exact HB.out)); rintro e w7 ⟨rfl, hi, hb, hk⟩; refine ⟨_, rfl, ?_⟩; have n0_ := QU (KeepBut.trans (by repeat (first | (with_reducible first | exact HK.out | apply KeepBut.set_ | apply QE | apply QH | apply QF) | exact HK.out)) hk (.inl rfl)); have n1_ := QU (hb); have n2_ := QU (hi); clear HK; clear HB; clear HI0; have HK := n0_; have HB := n1_; have HI0 := n2_; clear n0_ n1_ n2_; (try clear hb); (try clear hb2); (try clear hk); (try clear hi)) | ((with_reducible refine QM (f := 140) rfl ?_); refine goesL_ (some 11) rfl rfl Try.func140 (by kernel_rfl) rfl #[.pointer (some ⟨g, 0, none⟩), .int .i64 13] rfl (by (try simp only [List.map_toArray, List.map_cons, List.map_nil]); first | done | rfl | (simp only [List.length_drop, List.length_take]; rfl)) ?_; (with_reducible refine (spec_l1Below.calls g s0_0 t129 t130 13 t131 t132 t133 w0 _ ?side1 ?side2 A4.out).mono ?_); (case side1 => repeat (first | (with_reducible first | exact HI0.out | apply IsS123.alloc | apply IsS123.drewN | apply IsS123.drew | apply IsS123.set_1 | apply IsS123.set_2) | exact HI0.out)); (case side2 => repeat (first | (with_reducible first | exact HB.out | apply QC | apply QB | apply QD | refine QG ?_ (IsS123.ge HI0.out)) | exact HB.out)); rintro e w8 ⟨rfl, hi, hb, hk⟩; refine ⟨_, rfl, ?_⟩; have n0_ := QU (KeepBut.trans (by repeat (first | (with_reducible first | exact HK.out | apply KeepBut.set_ | apply QE | apply QH | apply QF) | exact HK.out)) hk (.inl rfl)); have n1_ := QU (hb); have n2_ := QU (hi); clear HK; clear HB; clear HI0; have HK := n0_; have HB := n1_; have HI0 := n2_; clear n0_ n1_ n2_; (try clear hb); (try clear hb2); (try clear hk); (try clear hi)) | ((with_reducible refine gate_dst (N := 13) rfl ?_); refine Kd.R_lit (Kd.int .i64) _ 3 ?hg (N := 13) ?hd (xs := ([wrap64 (100 + t125), wrap64 (200 + t128), wrap64 (300 + t131), 400] : List Int)) (inner := [.int .i64 (wrap64 (100 + t125)), .int .i64 (wrap64 (200 + t128)), .int .i64 (wrap64 (300 + t131)), .int .i64 400]) (ok := fun _ => True) (okp := fun _ => True) ?hr ?hp (fun _ hk => hk) trivial (Below.refl _ _) (Nat.le_refl _) (by simp) ?_; (case hd => rfl); (case hg => rfl); (case hr => first | (go_simp; done) | (go_simp; rfl)); (case hp => exact (Reps.one (show Kd.M (Kd.int .i64) _ _ _ (wrap64 (100 + t125)) [.int .i64 (wrap64 (100 + t125))] from rfl) (Reps.one (show Kd.M (Kd.int .i64) _ _ _ (wrap64 (200 + t128)) [.int .i64 (wrap64 (200 + t128))] from rfl) (Reps.one (show Kd.M (Kd.int .i64) _ _ _ (wrap64 (300 + t131)) [.int .i64 (wrap64 (300 + t131))] from rfl) (Reps.one (show Kd.M (Kd.int .i64) _ _ _ 400 [.int .i64 400] from rfl) (Reps.none _ _)))))); intro v135 w9 ho10 hb hg_ hnew_; clear hg_ hnew_; (first | rw [← Ny134.out] at ho10 | (simp only [Int.reduceToNat] at ho10; rw [← Ny134.out] at ho10)); have n0_ := QU (Kd.R_lower ho10 (keep_size (w := w) (g := g) (row := none) (by repeat (first | (with_reducible first | exact HK.out | apply KeepBut.set_ | apply QE | apply QH | apply QF) | exact HK.out)))); have n1_ := QU (IsS123.below (by repeat (first | (with_reducible first | exact HI0.out | apply IsS123.alloc | apply IsS123.drewN | apply IsS123.drew | apply IsS123.set_1 | apply IsS123.set_2) | exact HI0.out)) hb); have n2_ := QU (KeepBut.trans (by repeat (first | (with_reducible first | exact HK.out | apply KeepBut.set_ | apply QE | apply QH | apply QF) | exact HK.out)) (KeepBut.of_below hb g none) (.inl rfl)); have n3_ := QU (below_step (by repeat (first | (with_reducible first | exact HB.out | apply QC | apply QB | apply QD | refine QG ?_ (IsS123.ge HI0.out)) | exact HB.out)) hb); clear HI0; clear HK; clear HB; have HO136 := n0_; have HI0 := n1_; have HK := n2_; have HB := n3_; clear n0_ n1_ n2_ n3_; clear hb ho10; obtain ⟨Ao11, co11, eo11⟩ := Kd.R_slice HO136.out; subst eo11) | ((with_reducible refine QM (f := 148) rfl ?_); refine goesL_ (some 14) rfl rfl Try.func148 (by kernel_rfl) rfl #[.pointer (some ⟨g, 0, none⟩), .slice Ao11 y134.length co11] rfl (by (try simp only [List.map_toArray, List.map_cons, List.map_nil]); first | done | rfl | (simp only [List.length_drop, List.length_take]; rfl)) ?_; (with_reducible refine (spec_l1Int.calls g s0_0 t132 t133 _ _ y134 t137 t138 t139 w0 _ ?side1 ?side2 ?side3 ?side4 ?side5 A5.out).mono ?_); (case side1 => repeat (first | (with_reducible first | exact HI0.out | apply IsS123.alloc | apply IsS123.drewN | apply IsS123.drew | apply IsS123.set_1 | apply IsS123.set_2) | exact HI0.out)); (case side2 => repeat (first | (with_reducible first | exact HB.out | apply QC | apply QB | apply QD | refine QG ?_ (IsS123.ge HI0.out)) | exact HB.out)); (case side3 => repeat (first | exact (Kd.R_reads' HO136.out).2.2 | (with_reducible refine Kd.C_alloc ?_ _) | (with_reducible refine Kd.C_drewN ?_ _) | (with_reducible refine Kd.C_drew ?_))); (case side4 => exact (Kd.R_reads' HO136.out).2.1); (case side5 => exact far_slice (IsS123.own_ne HI0.out HO136.out (by decide))); rintro e w12 ⟨rfl, hi, hb, hk⟩; refine ⟨_, rfl, ?_⟩; have n0_ := QU (QT (Kd.R_keep (IsS123.apart (show IsS123 w0 _ g s0_0 t132 t133 from by repeat (first | (with_reducible first | exact HI0.out | apply IsS123.alloc | apply IsS123.drewN | apply IsS123.drew | apply IsS123.set_1 | apply IsS123.set_2) | exact HI0.out)) (by (with_reducible repeat (first | apply QO | apply QP | apply QR)); exact HO136.out) (by decide)) hk (fun _ h => h.2)) (fun _ h => h.1)); have n1_ := QU (KeepBut.trans (by repeat (first | (with_reducible first | exact HK.out | apply KeepBut.set_ | apply QE | apply QH | apply QF) | exact HK.out)) hk (.inl rfl)); have n2_ := QU (hb); have n3_ := QU (hi); clear HO136; clear HK; clear HB; clear HI0; have HO136 := n0_; have HK := n1_; have HB := n2_; have HI0 := n3_; clear n0_ n1_ n2_ n3_; (try clear hb); (try clear hb2); (try clear hk); (try clear hi)))
  go_ret
  exact ⟨by first | rfl | (simp [errW_none, errW_some] <;> rfl) | (simp [*, errW_none, errW_some] <;> rfl), by repeat (first | (with_reducible first | exact HI0.out | apply IsS123.alloc | apply IsS123.drewN | apply IsS123.drew | apply IsS123.set_1 | apply IsS123.set_2) | exact HI0.out), by repeat (first | (with_reducible first | exact HB.out | apply QC | apply QB | apply QD | refine QG ?_ (IsS123.ge HI0.out)) | exact HB.out), by repeat (first | (with_reducible first | exact HK.out | apply KeepBut.set_ | apply QE | apply QH | apply QF) | exact HK.out)⟩

/-! ### spec_l8Draw: function 157 -/
mutual
def spec_l8Draw.j0 : Nat → Int → Bool → List Int → Int → Int → Option (List Int × Int × Int)
  | 0, _, _, _, _, _ => none
  | k + 1, x1, x11, x1000, x1001, x1002 => if x11 = true then ((spec_l8Leaves.f x1000 x1001 x1002).bind fun bt143 => (some ((([bt143.1] : List Int)), bt143.2.1, bt143.2.2))) else ((spec_l1Once.f x1000 x1001 x1002 4).bind fun bt149 => (if bt149.1 = true then ((spec_l8Draw.f k x1000 bt149.2.1 bt149.2.2 (wrap64 (x1 - 1))).bind fun bt152 => (if bt152.1.length < 17592186044416 then (some ((bt152.1 ++ [(-1)]), bt152.2.1, bt152.2.2)) else (none))) else ((spec_l8Draw.f k x1000 bt149.2.1 bt149.2.2 (wrap64 (x1 - 1))).bind fun bt160 => ((spec_l8Draw.f k x1000 bt160.2.1 bt160.2.2 (wrap64 (x1 - 1))).bind fun bt165 => (if bt160.1.length + bt165.1.length < 17592186044416 then ((some (bt160.1 ++ bt165.1 : List Int)).bind fun y170 => ((spec_l1Below.f x1000 bt165.2.1 bt165.2.2 2).bind fun bt173 => (if y170.length < 17592186044416 then (some ((y170 ++ [wrap64 ((-2) - bt173.1)]), bt173.2.1, bt173.2.2)) else (none)))) else (none))))))
def spec_l8Draw.f : Nat → List Int → Int → Int → Int → Option (List Int × Int × Int)
  | 0, _, _, _, _ => none
  | k + 1, s0_0, s0_1, s0_2, a1 => if a1 = 0 then (spec_l8Draw.j0 k a1 true s0_0 s0_1 s0_2) else ((spec_l1Once.f s0_0 s0_1 s0_2 4).bind fun bt140 => (spec_l8Draw.j0 k a1 bt140.1 s0_0 bt140.2.1 bt140.2.2))
end
theorem spec_l8Draw.mono_l : ∀ k, (∀ y0 y1 y2 y3, LeO (spec_l8Draw.f k y0 y1 y2 y3) (spec_l8Draw.f (k + 1) y0 y1 y2 y3)) ∧ (∀ y0 y1 y2 y3 y4, LeO (spec_l8Draw.j0 k y0 y1 y2 y3 y4) (spec_l8Draw.j0 (k + 1) y0 y1 y2 y3 y4))
  | 0 => ⟨fun _ _ _ _ r h => by simp [spec_l8Draw.f] at h, fun _ _ _ _ _ r h => by simp [spec_l8Draw.j0] at h⟩
  | k + 1 => by
    obtain ⟨ih0, ih1⟩ := spec_l8Draw.mono_l k
    refine ⟨?_, ?_⟩
    · intro y0 y1 y2 y3
      unfold spec_l8Draw.f
      repeat' first
      | (with_reducible exact ih0 _ _ _ _)
      | (with_reducible exact ih1 _ _ _ _ _)
      | (with_reducible exact LeO.refl _)
      | (with_reducible exact LeO.none _)
      | (with_reducible refine LeO.ite ?_ ?_)
      | (with_reducible refine LeO.bind ?_ (fun _ => ?_))
      | exact ih0 _ _ _ _
      | exact ih1 _ _ _ _ _
      | exact LeO.none _
      | refine LeO.ite ?_ ?_
      | refine LeO.bind ?_ (fun _ => ?_)
    · intro y0 y1 y2 y3 y4
      unfold spec_l8Draw.j0
      repeat' first
      | (with_reducible exact ih0 _ _ _ _)
      | (with_reducible exact ih1 _ _ _ _ _)
      | (with_reducible exact LeO.refl _)
      | (with_reducible exact LeO.none _)
      | (with_reducible refine LeO.ite ?_ ?_)
      | (with_reducible refine LeO.bind ?_ (fun _ => ?_))
      | exact ih0 _ _ _ _
      | exact ih1 _ _ _ _ _
      | exact LeO.none _
      | refine LeO.ite ?_ ?_
      | refine LeO.bind ?_ (fun _ => ?_)
theorem spec_l8Draw.mono : ∀ a0 a1 a2 a3 k, LeO (spec_l8Draw.f k a0 a1 a2 a3) (spec_l8Draw.f (k + 1) a0 a1 a2 a3) := by
  intro a0 a1 a2 a3 k
  obtain ⟨ih0, ih1⟩ := spec_l8Draw.mono_l k
  exact ih0 a0 a1 a2 a3
set_option maxHeartbeats 8000000 in
set_option maxRecDepth 100000 in
theorem spec_l8Draw.calls (k : Nat) : ∀ (g : Nat) (s0_0 : List Int) (s0_1 : Int) (s0_2 : Int) (a1 : Int) (r1 : List Int) (r2 : Int) (r3 : Int) (w0 w : World) (hI : IsS123 w0 w g s0_0 s0_1 s0_2) (hB : Below w0.heap.size w0 w) (h : spec_l8Draw.f k s0_0 s0_1 s0_2 a1 = some (r1, r2, r3)),
    Calls Try.prog 157 #[.pointer (some ⟨g, 0, none⟩), .int .i64 a1] w fun e w' => ∃ v0_ : Value, e = .returned (v0_) ∧ Kd.R (Kd.int .i64) 3 w' w.heap.size (fun _ => True) v0_ r1 ∧ IsS123 w0 w' g s0_0 r2 r3 ∧ Below w0.heap.size w0 w' ∧ KeepBut w w' g none := by
  induction k using Nat.strongRecOn with
  | _ k ih =>
  intro g s0_0 s0_1 s0_2 a1 r1 r2 r3 w0 w hI hB h
  cases k with
  | zero => exact absurd h (by simp [spec_l8Draw.f])
  | succ k =>
  simp only [spec_l8Draw.f] at h
  have HI0 := QU hI
  have HK := QU (KeepBut.refl w g none)
  have HL := QU hB.size
  clear hI
  have HW0 := QU hB.size
  have HB := QU hB
  clear hB
  have H : (if a1 = 0 then (spec_l8Draw.j0 k a1 true s0_0 s0_1 s0_2) else ((spec_l1Once.f s0_0 s0_1 s0_2 4).bind fun bt140 => (spec_l8Draw.j0 k a1 bt140.1 s0_0 bt140.2.1 bt140.2.2))) = some (r1, r2, r3) := h
  clear h
  have HC3 := QU H
  clear H
  go_enter Try.func157, Try.ntmps157
  go_upto_region 1 with (fail)
  go_cut [11] (fun v11 wc => ∃ (kq : Nat) (x11_2 : Bool) (x1001_2 : Int) (x1002_2 : Int), v11 = .bool x11_2 ∧ Aside0 (spec_l8Draw.j0 kq a1 x11_2 s0_0 x1001_2 x1002_2 = some (r1, r2, r3)) ∧ Aside0 (kq ≤ k) ∧ Aside0 (IsS123 w0 wc g s0_0 x1001_2 x1002_2) ∧ Aside0 (KeepBut w wc g none) ∧ Aside0 (Below w0.heap.size w0 wc))
  case first =>
    have H := HC3.out
    clear HC3
    by_cases c4 : a1 = 0
    · rw [if_pos c4] at H
      have c4b0 : (a1 == 0) = true := beq_iff_eq.mpr c4
      have c4b1 : (a1 != 0) = false := bne_eq_false_iff_eq.mpr c4
      clear c4
      (first | rw [c4b0] | (simp only [i64_w, i32_w]; rw [c4b0]) | skip)
      have H' := QU H
      clear H
      go_wp2
      go_meet
      case rel => exact ⟨_, (true), (s0_1), (s0_2), (by first | rfl | (simp; done) | (simp [*]; done)), H', ⟨by first | omega | exact Nat.le_refl _⟩, ⟨by repeat (first | (with_reducible first | exact HI0.out | apply IsS123.alloc | apply IsS123.drewN | apply IsS123.drew | apply IsS123.set_1 | apply IsS123.set_2) | exact HI0.out)⟩, ⟨by repeat (first | (with_reducible first | exact HK.out | apply KeepBut.set_ | apply QE | apply QH | apply QF) | exact HK.out)⟩, ⟨by repeat (first | (with_reducible first | exact HB.out | apply QC | apply QB | apply QD | refine QG ?_ (IsS123.ge HI0.out)) | exact HB.out)⟩⟩
    · rw [if_neg c4] at H
      have c4b0 : (a1 == 0) = false := beq_eq_false_iff_ne.mpr c4
      have c4b1 : (a1 != 0) = true := bne_iff_ne.mpr c4
      (first | rw [c4b0] | (simp only [i64_w, i32_w]; rw [c4b0]) | skip)
      replace H := QV.mp H
      obtain ⟨⟨t140, t141, t142⟩, A50, H⟩ := H
      replace H : (spec_l8Draw.j0 k a1 t140 s0_0 t141 t142) = some (r1, r2, r3) := H
      have A5 := QU A50
      clear A50
      have H' := QU H
      clear H
      go_wp2_with (first | (go_at_call 128; (with_reducible refine (spec_l1Once.calls g s0_0 s0_1 s0_2 4 t140 t141 t142 w0 _ ?side1 ?side2 A5.out).mono ?_); (case side1 => repeat (first | (with_reducible first | exact HI0.out | apply IsS123.alloc | apply IsS123.drewN | apply IsS123.drew | apply IsS123.set_1 | apply IsS123.set_2) | exact HI0.out)); (case side2 => repeat (first | (with_reducible first | exact HB.out | apply QC | apply QB | apply QD | refine QG ?_ (IsS123.ge HI0.out)) | exact HB.out)); rintro e w6 ⟨rfl, hi, hb, hk⟩; have n0_ := QU (KeepBut.trans (by repeat (first | (with_reducible first | exact HK.out | apply KeepBut.set_ | apply QE | apply QH | apply QF) | exact HK.out)) hk (.inl rfl)); have n1_ := QU (hb); have n2_ := QU (hi); clear HK; clear HB; clear HI0; have HK := n0_; have HB := n1_; have HI0 := n2_; clear n0_ n1_ n2_; (try clear hb); (try clear hb2); (try clear hk); (try clear hi)))
      go_meet
      case rel => exact ⟨_, (t140), (t141), (t142), (by first | rfl | (simp; done) | (simp [*]; done)), H', ⟨by first | omega | exact Nat.le_refl _⟩, ⟨by repeat (first | (with_reducible first | exact HI0.out | apply IsS123.alloc | apply IsS123.drewN | apply IsS123.drew | apply IsS123.set_1 | apply IsS123.set_2) | exact HI0.out)⟩, ⟨by repeat (first | (with_reducible first | exact HK.out | apply KeepBut.set_ | apply QE | apply QH | apply QF) | exact HK.out)⟩, ⟨by repeat (first | (with_reducible first | exact HB.out | apply QC | apply QB | apply QD | refine QG ?_ (IsS123.ge HI0.out)) | exact HB.out)⟩⟩
  case rest =>
    clear HC3
    try clear c1
    try clear p2
    try clear c4
    try clear c4b0
    try clear c4b1
    obtain ⟨kq, x11_2, x1001_2, x1002_2, rfl, HA, HJ2, HI0, HK, HB⟩ := hcut
    cases kq with
    | zero => exact absurd HA.out (by simp [spec_l8Draw.j0])
    | succ kj2 =>
      have H := HA.out
      clear HA
      simp only [spec_l8Draw.j0] at H
      by_cases c7 : x11_2 = true
      · subst c7
        have H1 : ((spec_l8Leaves.f s0_0 x1001_2 x1002_2).bind fun bt143 => (some ((([bt143.1] : List Int)), bt143.2.1, bt143.2.2))) = some (r1, r2, r3) := by rw [if_pos rfl] at H; exact H
        clear H
        have H := H1
        clear H1
        replace H := QV.mp H
        obtain ⟨⟨t143, t144, t145⟩, A80, H⟩ := H
        replace H : (some ((([t143] : List Int)), t144, t145)) = some (r1, r2, r3) := H
        have A8 := QU A80
        clear A80
        obtain ⟨y146, hy146⟩ : ∃ y_ : List Int, y_ = (([t143] : List Int)) := ⟨_, rfl⟩
        replace H : (some (y146, t144, t145)) = some (r1, r2, r3) := by first | (rw [hy146]; with_reducible exact H) | (have H2_ := (Option.bind_some _ _).symm.trans H; rw [hy146]; with_reducible exact H2_) | (have H2_ := (Option.bind_some _ _).symm.trans H; with_reducible exact H2_) | with_reducible exact H | (rw [hy146]; exact H) | exact H
        have Ny146 := QU hy146
        clear hy146
        simp only [Option.some.injEq, Prod.mk.injEq] at H
        obtain ⟨rfl, rfl, rfl⟩ := H
        go_wp2_with (first | ((with_reducible refine QM (f := 159) rfl ?_); refine goesL_ (some 13) rfl rfl Try.func159 (by kernel_rfl) rfl #[.pointer (some ⟨g, 0, none⟩)] rfl (by (try simp only [List.map_toArray, List.map_cons, List.map_nil]); first | done | rfl | (simp only [List.length_drop, List.length_take]; rfl)) ?_; (with_reducible refine (spec_l8Leaves.calls g s0_0 x1001_2 x1002_2 t143 t144 t145 w0 _ ?side1 ?side2 A8.out).mono ?_); (case side1 => repeat (first | (with_reducible first | exact HI0.out | apply IsS123.alloc | apply IsS123.drewN | apply IsS123.drew | apply IsS123.set_1 | apply IsS123.set_2) | exact HI0.out)); (case side2 => repeat (first | (with_reducible first | exact HB.out | apply QC | apply QB | apply QD | refine QG ?_ (IsS123.ge HI0.out)) | exact HB.out)); rintro e w9 ⟨rfl, hi, hb, hk⟩; refine ⟨_, rfl, ?_⟩; have n0_ := QU (KeepBut.trans (by repeat (first | (with_reducible first | exact HK.out | apply KeepBut.set_ | apply QE | apply QH | apply QF) | exact HK.out)) hk (.inl rfl)); have n1_ := QU (hb); have n2_ := QU (hi); clear HK; clear HB; clear HI0; have HK := n0_; have HB := n1_; have HI0 := n2_; clear n0_ n1_ n2_; (try clear hb); (try clear hb2); (try clear hk); (try clear hi)) | ((with_reducible refine gate_dst (N := 14) rfl ?_); refine Kd.R_lit (Kd.int .i64) _ 3 ?hg (N := 14) ?hd (xs := ([t143] : List Int)) (inner := [.int .i64 t143]) (ok := fun _ => True) (okp := fun _ => True) ?hr ?hp (fun _ hk => hk) trivial (Below.refl _ _) (Nat.le_refl _) (by simp) ?_; (case hd => rfl); (case hg => rfl); (case hr => first | (go_simp; done) | (go_simp; rfl)); (case hp => exact (Reps.one (show Kd.M (Kd.int .i64) _ _ _ t143 [.int .i64 t143] from rfl) (Reps.none _ _))); intro v147 w10 ho11 hb hg_ hnew_; clear hg_ hnew_; (first | rw [← Ny146.out] at ho11 | (simp only [Int.reduceToNat] at ho11; rw [← Ny146.out] at ho11)); have n0_ := QU (Kd.R_lower ho11 (keep_size (w := w) (g := g) (row := none) (by repeat (first | (with_reducible first | exact HK.out | apply KeepBut.set_ | apply QE | apply QH | apply QF) | exact HK.out)))); have n1_ := QU (IsS123.below (by repeat (first | (with_reducible first | exact HI0.out | apply IsS123.alloc | apply IsS123.drewN | apply IsS123.drew | apply IsS123.set_1 | apply IsS123.set_2) | exact HI0.out)) hb); have n2_ := QU (KeepBut.trans (by repeat (first | (with_reducible first | exact HK.out | apply KeepBut.set_ | apply QE | apply QH | apply QF) | exact HK.out)) (KeepBut.of_below hb g none) (.inl rfl)); have n3_ := QU (below_step (by repeat (first | (with_reducible first | exact HB.out | apply QC | apply QB | apply QD | refine QG ?_ (IsS123.ge HI0.out)) | exact HB.out)) hb); clear HI0; clear HK; clear HB; have HO148 := n0_; have HI0 := n1_; have HK := n2_; have HB := n3_; clear n0_ n1_ n2_ n3_; clear hb ho11))
        go_ret
        exact ⟨_, by first | rfl | (simp [errW_none, errW_some] <;> rfl) | (simp [*, errW_none, errW_some] <;> rfl), by (with_reducible repeat (first | apply QO | apply QP | apply QR)); exact HO148.out, by repeat (first | (with_reducible first | exact HI0.out | apply IsS123.alloc | apply IsS123.drewN | apply IsS123.drew | apply IsS123.set_1 | apply IsS123.set_2) | exact HI0.out), by repeat (first | (with_reducible first | exact HB.out | apply QC | apply QB | apply QD | refine QG ?_ (IsS123.ge HI0.out)) | exact HB.out), by repeat (first | (with_reducible first | exact HK.out | apply KeepBut.set_ | apply QE | apply QH | apply QF) | exact HK.out)⟩
      · replace c7 := Bool.eq_false_iff.mpr c7
        subst c7
        have H1 : ((spec_l1Once.f s0_0 x1001_2 x1002_2 4).bind fun bt149 => (if bt149.1 = true then ((spec_l8Draw.f kj2 s0_0 bt149.2.1 bt149.2.2 (wrap64 (a1 - 1))).bind fun bt152 => (if bt152.1.length < 17592186044416 then (some ((bt152.1 ++ [(-1)]), bt152.2.1, bt152.2.2)) else (none))) else ((spec_l8Draw.f kj2 s0_0 bt149.2.1 bt149.2.2 (wrap64 (a1 - 1))).bind fun bt160 => ((spec_l8Draw.f kj2 s0_0 bt160.2.1 bt160.2.2 (wrap64 (a1 - 1))).bind fun bt165 => (if bt160.1.length + bt165.1.length < 17592186044416 then ((some (bt160.1 ++ bt165.1 : List Int)).bind fun y170 => ((spec_l1Below.f s0_0 bt165.2.1 bt165.2.2 2).bind fun bt173 => (if y170.length < 17592186044416 then (some ((y170 ++ [wrap64 ((-2) - bt173.1)]), bt173.2.1, bt173.2.2)) else (none)))) else (none)))))) = some (r1, r2, r3) := by rw [if_neg (show ¬ (false = true) by decide)] at H; exact H
        clear H
        have H := H1
        clear H1
        replace H := QV.mp H
        obtain ⟨⟨t149, t150, t151⟩, A120, H⟩ := H
        replace H : (if t149 = true then ((spec_l8Draw.f kj2 s0_0 t150 t151 (wrap64 (a1 - 1))).bind fun bt152 => (if bt152.1.length < 17592186044416 then (some ((bt152.1 ++ [(-1)]), bt152.2.1, bt152.2.2)) else (none))) else ((spec_l8Draw.f kj2 s0_0 t150 t151 (wrap64 (a1 - 1))).bind fun bt160 => ((spec_l8Draw.f kj2 s0_0 bt160.2.1 bt160.2.2 (wrap64 (a1 - 1))).bind fun bt165 => (if bt160.1.length + bt165.1.length < 17592186044416 then ((some (bt160.1 ++ bt165.1 : List Int)).bind fun y170 => ((spec_l1Below.f s0_0 bt165.2.1 bt165.2.2 2).bind fun bt173 => (if y170.length < 17592186044416 then (some ((y170 ++ [wrap64 ((-2) - bt173.1)]), bt173.2.1, bt173.2.2)) else (none)))) else (none))))) = some (r1, r2, r3) := H
        have A12 := QU A120
        clear A120
        by_cases c13 : t149 = true
        · subst c13
          have H1 : ((spec_l8Draw.f kj2 s0_0 t150 t151 (wrap64 (a1 - 1))).bind fun bt152 => (if bt152.1.length < 17592186044416 then (some ((bt152.1 ++ [(-1)]), bt152.2.1, bt152.2.2)) else (none))) = some (r1, r2, r3) := by rw [if_pos rfl] at H; exact H
          clear H
          have H := H1
          clear H1
          replace H := QV.mp H
          obtain ⟨⟨t152, t155, t156⟩, A140, H⟩ := H
          replace H : (if t152.length < 17592186044416 then (some ((t152 ++ [(-1)]), t155, t156)) else (none)) = some (r1, r2, r3) := H
          have A14 := QU A140
          clear A140
          by_cases c15 : t152.length < 17592186044416
          · rw [if_pos c15] at H
            have LMc15 := QU c15
            clear c15
            obtain ⟨y157, hy157⟩ : ∃ y_ : List Int, y_ = (t152 ++ [(-1)]) := ⟨_, rfl⟩
            replace H : (some (y157, t155, t156)) = some (r1, r2, r3) := by first | (rw [hy157]; with_reducible exact H) | (have H2_ := (Option.bind_some _ _).symm.trans H; rw [hy157]; with_reducible exact H2_) | (have H2_ := (Option.bind_some _ _).symm.trans H; with_reducible exact H2_) | with_reducible exact H | (rw [hy157]; exact H) | exact H
            have Ny157 := QU hy157
            clear hy157
            simp only [Option.some.injEq, Prod.mk.injEq] at H
            obtain ⟨rfl, rfl, rfl⟩ := H
            go_wp2_with (first | ((with_reducible refine QM (f := 128) rfl ?_); refine goesL_ (some 16) rfl rfl Try.func128 (by kernel_rfl) rfl #[.pointer (some ⟨g, 0, none⟩), .int .i64 4] rfl (by (try simp only [List.map_toArray, List.map_cons, List.map_nil]); first | done | rfl | (simp only [List.length_drop, List.length_take]; rfl)) ?_; (with_reducible refine (spec_l1Once.calls g s0_0 x1001_2 x1002_2 4 true t150 t151 w0 _ ?side1 ?side2 A12.out).mono ?_); (case side1 => repeat (first | (with_reducible first | exact HI0.out | apply IsS123.alloc | apply IsS123.drewN | apply IsS123.drew | apply IsS123.set_1 | apply IsS123.set_2) | exact HI0.out)); (case side2 => repeat (first | (with_reducible first | exact HB.out | apply QC | apply QB | apply QD | refine QG ?_ (IsS123.ge HI0.out)) | exact HB.out)); rintro e w16 ⟨rfl, hi, hb, hk⟩; refine ⟨_, rfl, ?_⟩; have n0_ := QU (KeepBut.trans (by repeat (first | (with_reducible first | exact HK.out | apply KeepBut.set_ | apply QE | apply QH | apply QF) | exact HK.out)) hk (.inl rfl)); have n1_ := QU (hb); have n2_ := QU (hi); clear HK; clear HB; clear HI0; have HK := n0_; have HB := n1_; have HI0 := n2_; clear n0_ n1_ n2_; (try clear hb); (try clear hb2); (try clear hk); (try clear hi)) | ((with_reducible refine QM (f := 157) rfl ?_); refine goesL_ (some 20) rfl rfl Try.func157 (by kernel_rfl) rfl #[.pointer (some ⟨g, 0, none⟩), .int .i64 (wrap64 (a1 - 1))] rfl (by (try simp only [List.map_toArray, List.map_cons, List.map_nil]); first | done | rfl | (simp only [List.length_drop, List.length_take]; rfl)) ?_; (with_reducible refine (ih kj2 (by have := HJ2.out; omega) g s0_0 t150 t151 (wrap64 (a1 - 1)) t152 t155 t156 w0 _ ?side1 ?side2 A14.out).mono ?_); (case side1 => repeat (first | (with_reducible first | exact HI0.out | apply IsS123.alloc | apply IsS123.drewN | apply IsS123.drew | apply IsS123.set_1 | apply IsS123.set_2) | exact HI0.out)); (case side2 => repeat (first | (with_reducible first | exact HB.out | apply QC | apply QB | apply QD | refine QG ?_ (IsS123.ge HI0.out)) | exact HB.out)); rintro e w17 ⟨v153, rfl, ho0, hi, hb, hk⟩; refine ⟨_, rfl, ?_⟩; have n0_ := QU (Kd.R_lower ho0 (keep_size (w := w) (g := g) (row := none) (by repeat (first | (with_reducible first | exact HK.out | apply KeepBut.set_ | apply QE | apply QH | apply QF) | exact HK.out)))); have n1_ := QU (KeepBut.trans (by repeat (first | (with_reducible first | exact HK.out | apply KeepBut.set_ | apply QE | apply QH | apply QF) | exact HK.out)) hk (.inl rfl)); have n2_ := QU (hb); have n3_ := QU (hi); clear HK; clear HB; clear HI0; have HO154 := n0_; have HK := n1_; have HB := n2_; have HI0 := n3_; clear n0_ n1_ n2_ n3_; (try clear hb); (try clear hb2); (try clear hk); (try clear hi); (try clear ho0)) | ((with_reducible refine gate_builtin (b := .append) (xs := #[.tmp 20, .tmp 21]) rfl ?_); at_builtin; refine Kd.R_append (Kd.int .i64) w.heap.size rfl (.tmp 20) (.tmp 21) 22 3 (.int .i64 0) 8 rfl Try.underlying22 info3 rfl (by decide) (by omega) v153 t152 (-1) [.int .i64 (-1)] (fun _ => True) (fun _ => False) rfl rfl ?aP (fun _ hk => hk.elim) ?aF ?aO (Below.refl _ _) ?aS ?aL ?_; (case aP => exact rfl); (case aF => exact (fun _ _ => trivial)); (case aO => exact (by (with_reducible repeat (first | apply QO | apply QP | apply QR)); exact HO154.out)); (case aS => exact (keep_size (w := w) (g := g) (row := none) (by repeat (first | (with_reducible first | exact HK.out | apply KeepBut.set_ | apply QE | apply QH | apply QF) | exact HK.out)))); (case aL => have := LMc15.out; omega); intro v158 w18 ho hb hg hat; rw [← Ny157.out] at ho; have n0_ := QU (IsS123.grown (by repeat (first | (with_reducible first | exact HI0.out | apply IsS123.alloc | apply IsS123.drewN | apply IsS123.drew | apply IsS123.set_1 | apply IsS123.set_2) | exact HI0.out)) hg (IsS123.own_ne HI0.out HO154.out (by decide))); have n1_ := QU (below_weaken (by repeat (first | (with_reducible first | exact HB.out | apply QC | apply QB | apply QD | refine QG ?_ (IsS123.ge HI0.out)) | exact HB.out)) HL.out hb); have n2_ := QU (KeepBut.trans (by repeat (first | (with_reducible first | exact HK.out | apply KeepBut.set_ | apply QE | apply QH | apply QF) | exact HK.out)) (KeepBut.of_grown hg g) (Kd.R_base2 HO154.out)); have n3_ := QU (ho); clear HI0; clear HB; clear HK; clear HO154; have HI0 := n0_; have HB := n1_; have HK := n2_; have HO159 := n3_; clear n0_ n1_ n2_ n3_; clear ho hb hg hat))
            go_ret
            exact ⟨_, by first | rfl | (simp [errW_none, errW_some] <;> rfl) | (simp [*, errW_none, errW_some] <;> rfl), by (with_reducible repeat (first | apply QO | apply QP | apply QR)); exact HO159.out, by repeat (first | (with_reducible first | exact HI0.out | apply IsS123.alloc | apply IsS123.drewN | apply IsS123.drew | apply IsS123.set_1 | apply IsS123.set_2) | exact HI0.out), by repeat (first | (with_reducible first | exact HB.out | apply QC | apply QB | apply QD | refine QG ?_ (IsS123.ge HI0.out)) | exact HB.out), by repeat (first | (with_reducible first | exact HK.out | apply KeepBut.set_ | apply QE | apply QH | apply QF) | exact HK.out)⟩
          · rw [if_neg c15] at H
            exact absurd H (by simp)
        · replace c13 := Bool.eq_false_iff.mpr c13
          subst c13
          have H1 : ((spec_l8Draw.f kj2 s0_0 t150 t151 (wrap64 (a1 - 1))).bind fun bt160 => ((spec_l8Draw.f kj2 s0_0 bt160.2.1 bt160.2.2 (wrap64 (a1 - 1))).bind fun bt165 => (if bt160.1.length + bt165.1.length < 17592186044416 then ((some (bt160.1 ++ bt165.1 : List Int)).bind fun y170 => ((spec_l1Below.f s0_0 bt165.2.1 bt165.2.2 2).bind fun bt173 => (if y170.length < 17592186044416 then (some ((y170 ++ [wrap64 ((-2) - bt173.1)]), bt173.2.1, bt173.2.2)) else (none)))) else (none)))) = some (r1, r2, r3) := by rw [if_neg (show ¬ (false = true) by decide)] at H; exact H
          clear H
          have H := H1
          clear H1
          replace H := QV.mp H
          obtain ⟨⟨t160, t163, t164⟩, A190, H⟩ := H
          replace H : ((spec_l8Draw.f kj2 s0_0 t163 t164 (wrap64 (a1 - 1))).bind fun bt165 => (if t160.length + bt165.1.length < 17592186044416 then ((some (t160 ++ bt165.1 : List Int)).bind fun y170 => ((spec_l1Below.f s0_0 bt165.2.1 bt165.2.2 2).bind fun bt173 => (if y170.length < 17592186044416 then (some ((y170 ++ [wrap64 ((-2) - bt173.1)]), bt173.2.1, bt173.2.2)) else (none)))) else (none))) = some (r1, r2, r3) := H
          have A19 := QU A190
          clear A190
          replace H := QV.mp H
          obtain ⟨⟨t165, t168, t169⟩, A200, H⟩ := H
          replace H : (if t160.length + t165.length < 17592186044416 then ((some (t160 ++ t165 : List Int)).bind fun y170 => ((spec_l1Below.f s0_0 t168 t169 2).bind fun bt173 => (if y170.length < 17592186044416 then (some ((y170 ++ [wrap64 ((-2) - bt173.1)]), bt173.2.1, bt173.2.2)) else (none)))) else (none)) = some (r1, r2, r3) := H
          have A20 := QU A200
          clear A200
          by_cases c21 : t160.length + t165.length < 17592186044416
          · rw [if_pos c21] at H
            have LMc21 := QU c21
            clear c21
            obtain ⟨y170, hy170⟩ : ∃ y_ : List Int, y_ = (t160 ++ t165) := ⟨_, rfl⟩
            replace H : ((spec_l1Below.f s0_0 t168 t169 2).bind fun bt173 => (if y170.length < 17592186044416 then (some ((y170 ++ [wrap64 ((-2) - bt173.1)]), bt173.2.1, bt173.2.2)) else (none))) = some (r1, r2, r3) := by first | (rw [hy170]; with_reducible exact H) | (have H2_ := (Option.bind_some _ _).symm.trans H; rw [hy170]; with_reducible exact H2_) | (have H2_ := (Option.bind_some _ _).symm.trans H; with_reducible exact H2_) | with_reducible exact H | (rw [hy170]; exact H) | exact H
            have Ny170 := QU hy170
            clear hy170
            replace H := QV.mp H
            obtain ⟨⟨t173, t174, t175⟩, A220, H⟩ := H
            replace H : (if y170.length < 17592186044416 then (some ((y170 ++ [wrap64 ((-2) - t173)]), t174, t175)) else (none)) = some (r1, r2, r3) := H
            have A22 := QU A220
            clear A220
            by_cases c23 : y170.length < 17592186044416
            · rw [if_pos c23] at H
              have LMc23 := QU c23
              clear c23
              obtain ⟨y176, hy176⟩ : ∃ y_ : List Int, y_ = (y170 ++ [wrap64 ((-2) - t173)]) := ⟨_, rfl⟩
              replace H : (some (y176, t174, t175)) = some (r1, r2, r3) := by first | (rw [hy176]; with_reducible exact H) | (have H2_ := (Option.bind_some _ _).symm.trans H; rw [hy176]; with_reducible exact H2_) | (have H2_ := (Option.bind_some _ _).symm.trans H; with_reducible exact H2_) | with_reducible exact H | (rw [hy176]; exact H) | exact H
              have Ny176 := QU hy176
              clear hy176
              simp only [Option.some.injEq, Prod.mk.injEq] at H
              obtain ⟨rfl, rfl, rfl⟩ := H
              go_wp2_with (first | ((with_reducible refine QM (f := 128) rfl ?_); refine goesL_ (some 16) rfl rfl Try.func128 (by kernel_rfl) rfl #[.pointer (some ⟨g, 0, none⟩), .int .i64 4] rfl (by (try simp only [List.map_toArray, List.map_cons, List.map_nil]); first | done | rfl | (simp only [List.length_drop, List.length_take]; rfl)) ?_; (with_reducible refine (spec_l1Once.calls g s0_0 x1001_2 x1002_2 4 false t150 t151 w0 _ ?side1 ?side2 A12.out).mono ?_); (case side1 => repeat (first | (with_reducible first | exact HI0.out | apply IsS123.alloc | apply IsS123.drewN | apply IsS123.drew | apply IsS123.set_1 | apply IsS123.set_2) | exact HI0.out)); (case side2 => repeat (first | (with_reducible first | exact HB.out | apply QC | apply QB | apply QD | refine QG ?_ (IsS123.ge HI0.out)) | exact HB.out)); rintro e w24 ⟨rfl, hi, hb, hk⟩; refine ⟨_, rfl, ?_⟩; have n0_ := QU (KeepBut.trans (by repeat (first | (with_reducible first | exact HK.out | apply KeepBut.set_ | apply QE | apply QH | apply QF) | exact HK.out)) hk (.inl rfl)); have n1_ := QU (hb); have n2_ := QU (hi); clear HK; clear HB; clear HI0; have HK := n0_; have HB := n1_; have HI0 := n2_; clear n0_ n1_ n2_; (try clear hb); (try clear hb2); (try clear hk); (try clear hi)) | ((with_reducible refine QM (f := 157) rfl ?_); refine goesL_ (some 26) rfl rfl Try.func157 (by kernel_rfl) rfl #[.pointer (some ⟨g, 0, none⟩), .int .i64 (wrap64 (a1 - 1))] rfl (by (try simp only [List.map_toArray, List.map_cons, List.map_nil]); first | done | rfl | (simp only [List.length_drop, List.length_take]; rfl)) ?_; (with_reducible refine (ih kj2 (by have := HJ2.out; omega) g s0_0 t150 t151 (wrap64 (a1 - 1)) t160 t163 t164 w0 _ ?side1 ?side2 A19.out).mono ?_); (case side1 => repeat (first | (with_reducible first | exact HI0.out | apply IsS123.alloc | apply IsS123.drewN | apply IsS123.drew | apply IsS123.set_1 | apply IsS123.set_2) | exact HI0.out)); (case side2 => repeat (first | (with_reducible first | exact HB.out | apply QC | apply QB | apply QD | refine QG ?_ (IsS123.ge HI0.out)) | exact HB.out)); rintro e w25 ⟨v161, rfl, ho0, hi, hb, hk⟩; refine ⟨_, rfl, ?_⟩; have n0_ := QU (Kd.R_lower ho0 (keep_size (w := w) (g := g) (row := none) (by repeat (first | (with_reducible first | exact HK.out | apply KeepBut.set_ | apply QE | apply QH | apply QF) | exact HK.out)))); have n1_ := QU (KeepBut.trans (by repeat (first | (with_reducible first | exact HK.out | apply KeepBut.set_ | apply QE | apply QH | apply QF) | exact HK.out)) hk (.inl rfl)); have n2_ := QU (hb); have n3_ := QU (hi); clear HK; clear HB; clear HI0; have HO162 := n0_; have HK := n1_; have HB := n2_; have HI0 := n3_; clear n0_ n1_ n2_ n3_; (try clear hb); (try clear hb2); (try clear hk); (try clear hi); (try clear ho0)) | ((with_reducible refine QM (f := 157) rfl ?_); refine goesL_ (some 31) rfl rfl Try.func157 (by kernel_rfl) rfl #[.pointer (some ⟨g, 0, none⟩), .int .i64 (wrap64 (a1 - 1))] rfl (by (try simp only [List.map_toArray, List.map_cons, List.map_nil]); first | done | rfl | (simp only [List.length_drop, List.length_take]; rfl)) ?_; (with_reducible refine (ih kj2 (by have := HJ2.out; omega) g s0_0 t163 t164 (wrap64 (a1 - 1)) t165 t168 t169 w0 _ ?side1 ?side2 A20.out).mono ?_); (case side1 => repeat (first | (with_reducible first | exact HI0.out | apply IsS123.alloc | apply IsS123.drewN | apply IsS123.drew | apply IsS123.set_1 | apply IsS123.set_2) | exact HI0.out)); (case side2 => repeat (first | (with_reducible first | exact HB.out | apply QC | apply QB | apply QD | refine QG ?_ (IsS123.ge HI0.out)) | exact HB.out)); rintro e w26 ⟨v166, rfl, ho0, hi, hb, hk⟩; refine ⟨_, rfl, ?_⟩; have n0_ := QU (QT (Kd.R_told (Kd.R_oldK (IsS123.apart (show IsS123 w0 _ g s0_0 t163 t164 from by repeat (first | (with_reducible first | exact HI0.out | apply IsS123.alloc | apply IsS123.drewN | apply IsS123.drew | apply IsS123.set_1 | apply IsS123.set_2) | exact HI0.out)) (by (with_reducible repeat (first | apply QO | apply QP | apply QR)); exact HO162.out) (by decide)) hk) (Kd.R_base ho0)) (fun _ h_ => h_.1)); have n1_ := QU (Kd.R_lower (Kd.R_new' ho0 (Kd.R_lt (by (with_reducible repeat (first | apply QO | apply QP | apply QR)); exact HO162.out))) (keep_size (w := w) (g := g) (row := none) (by repeat (first | (with_reducible first | exact HK.out | apply KeepBut.set_ | apply QE | apply QH | apply QF) | exact HK.out)))); have n2_ := QU (KeepBut.trans (by repeat (first | (with_reducible first | exact HK.out | apply KeepBut.set_ | apply QE | apply QH | apply QF) | exact HK.out)) hk (.inl rfl)); have n3_ := QU (hb); have n4_ := QU (hi); clear HO162; clear HK; clear HB; clear HI0; have HO162 := n0_; have HO167 := n1_; have HK := n2_; have HB := n3_; have HI0 := n4_; clear n0_ n1_ n2_ n3_ n4_; (try clear hb); (try clear hb2); (try clear hk); (try clear hi); (try clear ho0); obtain ⟨Ao28, co28, eo28⟩ := Kd.R_slice HO167.out; subst eo28) | ((with_reducible refine gate_builtin (b := .append) (xs := #[.tmp 27, .tmp 31]) rfl ?_); at_builtin; refine Kd.R_append_rows (Kd.int .i64) w.heap.size rfl (.tmp 27) (.tmp 31) 22 3 (.int .i64 0) 8 rfl Try.underlying22 info3 rfl (by decide) (by omega) v161 t160 t165 _ _ _ (fun k_ => some k_ ≠ (.slice Ao28 t165.length co28 : Value).ownBlock) (fun _ => False) rfl rfl ?aO ?aR (fun _ _ h => h) (fun _ h => h.elim) ?aF (Below.refl _ _) ?aS ?aL ?_; (case aR => repeat (first | exact (Kd.R_reads' HO167.out).2.2 | (with_reducible refine Kd.C_alloc ?_ _) | (with_reducible refine Kd.C_drewN ?_ _) | (with_reducible refine Kd.C_drew ?_))); (case aF => exact (fun k_ hk => Kd.fresh' (Kd.R_lt (by (with_reducible repeat (first | apply QO | apply QP | apply QR)); exact HO167.out)) k_ hk)); (case aO => exact (by (with_reducible repeat (first | apply QO | apply QP | apply QR)); exact QT HO162.out (by first | exact fun k_ hk => hk.2 | exact fun k_ hk => hk))); (case aS => exact (keep_size (w := w) (g := g) (row := none) (by repeat (first | (with_reducible first | exact HK.out | apply KeepBut.set_ | apply QE | apply QH | apply QF) | exact HK.out)))); (case aL => have := LMc21.out; omega); intro v171 w27 ho hb hg hat; rw [← Ny170.out] at ho; have n0_ := QU (IsS123.grown (by repeat (first | (with_reducible first | exact HI0.out | apply IsS123.alloc | apply IsS123.drewN | apply IsS123.drew | apply IsS123.set_1 | apply IsS123.set_2) | exact HI0.out)) hg (IsS123.own_ne HI0.out HO162.out (by decide))); have n1_ := QU (Kd.R_after (ok := (fun _ => True)) (by (with_reducible repeat (first | apply QO | apply QP | apply QR)); exact HO167.out) hg hat); have n2_ := QU (below_weaken (by repeat (first | (with_reducible first | exact HB.out | apply QC | apply QB | apply QD | refine QG ?_ (IsS123.ge HI0.out)) | exact HB.out)) HL.out hb); have n3_ := QU (KeepBut.trans (by repeat (first | (with_reducible first | exact HK.out | apply KeepBut.set_ | apply QE | apply QH | apply QF) | exact HK.out)) (KeepBut.of_grown hg g) (Kd.R_base2 HO162.out)); have n4_ := QU (ho); clear HI0; clear HO167; clear HB; clear HK; clear HO162; have HI0 := n0_; have HO167 := n1_; have HB := n2_; have HK := n3_; have HO172 := n4_; clear n0_ n1_ n2_ n3_ n4_; clear ho hb hg hat) | ((with_reducible refine QM (f := 140) rfl ?_); refine goesL_ (some 34) rfl rfl Try.func140 (by kernel_rfl) rfl #[.pointer (some ⟨g, 0, none⟩), .int .i64 2] rfl (by (try simp only [List.map_toArray, List.map_cons, List.map_nil]); first | done | rfl | (simp only [List.length_drop, List.length_take]; rfl)) ?_; (with_reducible refine (spec_l1Below.calls g s0_0 t168 t169 2 t173 t174 t175 w0 _ ?side1 ?side2 A22.out).mono ?_); (case side1 => repeat (first | (with_reducible first | exact HI0.out | apply IsS123.alloc | apply IsS123.drewN | apply IsS123.drew | apply IsS123.set_1 | apply IsS123.set_2) | exact HI0.out)); (case side2 => repeat (first | (with_reducible first | exact HB.out | apply QC | apply QB | apply QD | refine QG ?_ (IsS123.ge HI0.out)) | exact HB.out)); rintro e w29 ⟨rfl, hi, hb, hk⟩; refine ⟨_, rfl, ?_⟩; have n0_ := QU (QT (Kd.R_keep (IsS123.apart (show IsS123 w0 _ g s0_0 t168 t169 from by repeat (first | (with_reducible first | exact HI0.out | apply IsS123.alloc | apply IsS123.drewN | apply IsS123.drew | apply IsS123.set_1 | apply IsS123.set_2) | exact HI0.out)) (by (with_reducible repeat (first | apply QO | apply QP | apply QR)); exact HO167.out) (by decide)) hk (fun _ h => h.2)) (fun _ h => h.1)); have n1_ := QU (QT (Kd.R_keep (IsS123.apart (show IsS123 w0 _ g s0_0 t168 t169 from by repeat (first | (with_reducible first | exact HI0.out | apply IsS123.alloc | apply IsS123.drewN | apply IsS123.drew | apply IsS123.set_1 | apply IsS123.set_2) | exact HI0.out)) (by (with_reducible repeat (first | apply QO | apply QP | apply QR)); exact HO172.out) (by decide)) hk (fun _ h => h.2)) (fun _ h => h.1)); have n2_ := QU (KeepBut.trans (by repeat (first | (with_reducible first | exact HK.out | apply KeepBut.set_ | apply QE | apply QH | apply QF) | exact HK.out)) hk (.inl rfl)); have n3_ := QU (hb); have n4_ := QU (hi); clear HO167; clear HO172; clear HK; clear HB; clear HI0; have HO167 := n0_; have HO172 := n1_; have HK := n2_; have HB := n3_; have HI0 := n4_; clear n0_ n1_ n2_ n3_ n4_; (try clear hb); (try clear hb2); (try clear hk); (try clear hi)) | ((with_reducible refine gate_builtin (b := .append) (xs := #[.tmp 32, .tmp 36]) rfl ?_); at_builtin; refine Kd.R_append (Kd.int .i64) w.heap.size rfl (.tmp 32) (.tmp 36) 22 3 (.int .i64 0) 8 rfl Try.underlying22 info3 rfl (by decide) (by omega) v171 y170 (wrap64 ((-2) - t173)) [.int .i64 (wrap64 ((-2) - t173))] (fun k_ => some k_ ≠ (.slice Ao28 t165.length co28 : Value).ownBlock) (fun _ => False) rfl rfl ?aP (fun _ hk => hk.elim) ?aF ?aO (Below.refl _ _) ?aS ?aL ?_; (case aP => exact rfl); (case aF => exact (fun k_ hk => Kd.fresh' (Kd.R_lt (by (with_reducible repeat (first | apply QO | apply QP | apply QR)); exact HO167.out)) k_ hk)); (case aO => exact (by (with_reducible repeat (first | apply QO | apply QP | apply QR)); exact HO172.out)); (case aS => exact (keep_size (w := w) (g := g) (row := none) (by repeat (first | (with_reducible first | exact HK.out | apply KeepBut.set_ | apply QE | apply QH | apply QF) | exact HK.out)))); (case aL => have := LMc23.out; omega); intro v177 w30 ho hb hg hat; rw [← Ny176.out] at ho; have n0_ := QU (IsS123.grown (by repeat (first | (with_reducible first | exact HI0.out | apply IsS123.alloc | apply IsS123.drewN | apply IsS123.drew | apply IsS123.set_1 | apply IsS123.set_2) | exact HI0.out)) hg (IsS123.own_ne HI0.out HO172.out (by decide))); have n1_ := QU (Kd.R_after (ok := (fun _ => True)) (by (with_reducible repeat (first | apply QO | apply QP | apply QR)); exact HO167.out) hg hat); have n2_ := QU (below_weaken (by repeat (first | (with_reducible first | exact HB.out | apply QC | apply QB | apply QD | refine QG ?_ (IsS123.ge HI0.out)) | exact HB.out)) HL.out hb); have n3_ := QU (KeepBut.trans (by repeat (first | (with_reducible first | exact HK.out | apply KeepBut.set_ | apply QE | apply QH | apply QF) | exact HK.out)) (KeepBut.of_grown hg g) (Kd.R_base2 HO172.out)); have n4_ := QU (ho); clear HI0; clear HO167; clear HB; clear HK; clear HO172; have HI0 := n0_; have HO167 := n1_; have HB := n2_; have HK := n3_; have HO178 := n4_; clear n0_ n1_ n2_ n3_ n4_; clear ho hb hg hat))
              go_ret
              exact ⟨_, by first | rfl | (simp [errW_none, errW_some] <;> rfl) | (simp [*, errW_none, errW_some] <;> rfl), by (with_reducible repeat (first | apply QO | apply QP | apply QR)); exact QT HO178.out (fun _ hk => trivial), by repeat (first | (with_reducible first | exact HI0.out | apply IsS123.alloc | apply IsS123.drewN | apply IsS123.drew | apply IsS123.set_1 | apply IsS123.set_2) | exact HI0.out), by repeat (first | (with_reducible first | exact HB.out | apply QC | apply QB | apply QD | refine QG ?_ (IsS123.ge HI0.out)) | exact HB.out), by repeat (first | (with_reducible first | exact HK.out | apply KeepBut.set_ | apply QE | apply QH | apply QF) | exact HK.out)⟩
            · rw [if_neg c23] at H
              exact absurd H (by simp)
          · rw [if_neg c21] at H
            exact absurd H (by simp)

/-! ### spec_l22Draw: function 147 -/
def spec_l22Draw.j0 : Nat → List Int → Int → Int → Int → Int → Bool → Bool → List Int → Int → Int → Option (Int × Int × Bool × Bool × List Int × List Int × Int × Int × Int × Int)
  | 0, _, _, _, _, _, _, _, _, _, _ => none
  | k + 1, x1000, x1001, x1002, x196000, x196001, x196002, x196003, x196004, x196006, x196007 => (spec_l1Once.f x1000 x1001 x1002 2).bind fun bt204 => (if bt204.1 = true then ((spec_l8Draw.f k x1000 bt204.2.1 bt204.2.2 1).bind fun bt207 => (some (x196000, x196001, x196002, x196003, x196004, bt207.1, x196006, x196007, bt207.2.1, bt207.2.2))) else (some (x196000, x196001, x196002, x196003, x196004, ([] : List Int), x196006, x196007, bt204.2.1, bt204.2.2)))
def spec_l22Draw.f (k : Nat) (s0_0 : List Int) (s0_1 : Int) (s0_2 : Int) : Option (Int × Int × Bool × Bool × List Int × List Int × Int × Int × Int × Int) := (spec_l1Below.f s0_0 s0_1 s0_2 4).bind fun bt180 => ((spec_l1Below.f s0_0 bt180.2.1 bt180.2.2 6).bind fun bt183 => ((spec_l1Once.f s0_0 bt183.2.1 bt183.2.2 2).bind fun bt186 => ((spec_l1Below.f s0_0 bt186.2.1 bt186.2.2 2).bind fun bt189 => ((spec_l1Below.f s0_0 bt189.2.1 bt189.2.2 60).bind fun bt192 => ((spec_l1Once.f s0_0 bt192.2.1 bt192.2.2 2).bind fun bt196 => (if bt196.1 = true then ((spec_l8Draw.f k s0_0 bt196.2.1 bt196.2.2 1).bind fun bt199 => (spec_l22Draw.j0 k s0_0 bt199.2.1 bt199.2.2 (wrap64 (2 + bt180.1)) (wrap64 (1 + bt183.1)) bt186.1 true bt199.1 (wrap64 (1 + bt189.1)) (wrap64 (20 + bt192.1)))) else (spec_l22Draw.j0 k s0_0 bt196.2.1 bt196.2.2 (wrap64 (2 + bt180.1)) (wrap64 (1 + bt183.1)) bt186.1 true ([] : List Int) (wrap64 (1 + bt189.1)) (wrap64 (20 + bt192.1)))))))))
theorem spec_l22Draw.mono_l : ∀ k, (∀ y0 y1 y2 y3 y4 y5 y6 y7 y8 y9, LeO (spec_l22Draw.j0 k y0 y1 y2 y3 y4 y5 y6 y7 y8 y9) (spec_l22Draw.j0 (k + 1) y0 y1 y2 y3 y4 y5 y6 y7 y8 y9))
  | 0 => fun _ _ _ _ _ _ _ _ _ _ r h => by simp [spec_l22Draw.j0] at h
  | k + 1 => by
    have ih0 := spec_l22Draw.mono_l k
    · intro y0 y1 y2 y3 y4 y5 y6 y7 y8 y9
      unfold spec_l22Draw.j0
      repeat' first
      | (with_reducible exact ih0 _ _ _ _ _ _ _ _ _ _)
      | (with_reducible exact spec_l8Draw.mono _ _ _ _ _)
      | (with_reducible exact LeO.refl _)
      | (with_reducible exact LeO.none _)
      | (with_reducible refine LeO.ite ?_ ?_)
      | (with_reducible refine LeO.bind ?_ (fun _ => ?_))
      | exact ih0 _ _ _ _ _ _ _ _ _ _
      | exact spec_l8Draw.mono _ _ _ _ _
      | exact LeO.none _
      | refine LeO.ite ?_ ?_
      | refine LeO.bind ?_ (fun _ => ?_)
theorem spec_l22Draw.mono : ∀ a0 a1 a2 k, LeO (spec_l22Draw.f k a0 a1 a2) (spec_l22Draw.f (k + 1) a0 a1 a2) := by
  intro a0 a1 a2 k
  have ih0 := spec_l22Draw.mono_l k
  unfold spec_l22Draw.f
  repeat' first
      | (with_reducible exact ih0 _ _ _ _ _ _ _ _ _ _)
      | (with_reducible exact spec_l8Draw.mono _ _ _ _ _)
      | (with_reducible exact LeO.refl _)
      | (with_reducible exact LeO.none _)
      | (with_reducible refine LeO.ite ?_ ?_)
      | (with_reducible refine LeO.bind ?_ (fun _ => ?_))
      | exact ih0 _ _ _ _ _ _ _ _ _ _
      | exact spec_l8Draw.mono _ _ _ _ _
      | exact LeO.none _
      | refine LeO.ite ?_ ?_
      | refine LeO.bind ?_ (fun _ => ?_)
set_option maxHeartbeats 8000000 in
set_option maxRecDepth 100000 in
theorem spec_l22Draw.calls (k : Nat) (g : Nat) (s0_0 : List Int) (s0_1 : Int) (s0_2 : Int) (r1 : Int) (r2 : Int) (r3 : Bool) (r4 : Bool) (r5 : List Int) (r6 : List Int) (r7 : Int) (r8 : Int) (r9 : Int) (r10 : Int) (w0 w : World) (hI : IsS123 w0 w g s0_0 s0_1 s0_2) (hB : Below w0.heap.size w0 w) (h : spec_l22Draw.f k s0_0 s0_1 s0_2 = some (r1, r2, r3, r4, r5, r6, r7, r8, r9, r10)) :
    Calls Try.prog 147 #[.pointer (some ⟨g, 0, none⟩)] w fun e w' => ∃ v4_ v5_ : Value, e = .returned (.agg #[.int .i64 r1, .int .i64 r2, .bool r3, .bool r4, v4_, v5_, .int .i64 r7, .int .i64 r8]) ∧ Kd.R (Kd.int .i64) 3 w' w.heap.size (fun k_ => some k_ ≠ (v5_ : Value).ownBlock) v4_ r5 ∧ Kd.R (Kd.int .i64) 3 w' w.heap.size (fun k_ => some k_ ≠ (v4_ : Value).ownBlock) v5_ r6 ∧ IsS123 w0 w' g s0_0 r9 r10 ∧ Below w0.heap.size w0 w' ∧ KeepBut w w' g none := by
  have hu74 := Try.underlying74
  have HI0 := QU hI
  have HK := QU (KeepBut.refl w g none)
  have HL := QU hB.size
  clear hI
  have HW0 := QU hB.size
  have HB := QU hB
  clear hB
  have H : ((spec_l1Below.f s0_0 s0_1 s0_2 4).bind fun bt180 => ((spec_l1Below.f s0_0 bt180.2.1 bt180.2.2 6).bind fun bt183 => ((spec_l1Once.f s0_0 bt183.2.1 bt183.2.2 2).bind fun bt186 => ((spec_l1Below.f s0_0 bt186.2.1 bt186.2.2 2).bind fun bt189 => ((spec_l1Below.f s0_0 bt189.2.1 bt189.2.2 60).bind fun bt192 => ((spec_l1Once.f s0_0 bt192.2.1 bt192.2.2 2).bind fun bt196 => (if bt196.1 = true then ((spec_l8Draw.f k s0_0 bt196.2.1 bt196.2.2 1).bind fun bt199 => (spec_l22Draw.j0 k s0_0 bt199.2.1 bt199.2.2 (wrap64 (2 + bt180.1)) (wrap64 (1 + bt183.1)) bt186.1 true bt199.1 (wrap64 (1 + bt189.1)) (wrap64 (20 + bt192.1)))) else (spec_l22Draw.j0 k s0_0 bt196.2.1 bt196.2.2 (wrap64 (2 + bt180.1)) (wrap64 (1 + bt183.1)) bt186.1 true ([] : List Int) (wrap64 (1 + bt189.1)) (wrap64 (20 + bt192.1)))))))))) = some (r1, r2, r3, r4, r5, r6, r7, r8, r9, r10) := h
  clear h
  replace H := QV.mp H
  obtain ⟨⟨t180, t181, t182⟩, A20, H⟩ := H
  replace H : ((spec_l1Below.f s0_0 t181 t182 6).bind fun bt183 => ((spec_l1Once.f s0_0 bt183.2.1 bt183.2.2 2).bind fun bt186 => ((spec_l1Below.f s0_0 bt186.2.1 bt186.2.2 2).bind fun bt189 => ((spec_l1Below.f s0_0 bt189.2.1 bt189.2.2 60).bind fun bt192 => ((spec_l1Once.f s0_0 bt192.2.1 bt192.2.2 2).bind fun bt196 => (if bt196.1 = true then ((spec_l8Draw.f k s0_0 bt196.2.1 bt196.2.2 1).bind fun bt199 => (spec_l22Draw.j0 k s0_0 bt199.2.1 bt199.2.2 (wrap64 (2 + t180)) (wrap64 (1 + bt183.1)) bt186.1 true bt199.1 (wrap64 (1 + bt189.1)) (wrap64 (20 + bt192.1)))) else (spec_l22Draw.j0 k s0_0 bt196.2.1 bt196.2.2 (wrap64 (2 + t180)) (wrap64 (1 + bt183.1)) bt186.1 true ([] : List Int) (wrap64 (1 + bt189.1)) (wrap64 (20 + bt192.1))))))))) = some (r1, r2, r3, r4, r5, r6, r7, r8, r9, r10) := H
  have A2 := QU A20
  clear A20
  replace H := QV.mp H
  obtain ⟨⟨t183, t184, t185⟩, A30, H⟩ := H
  replace H : ((spec_l1Once.f s0_0 t184 t185 2).bind fun bt186 => ((spec_l1Below.f s0_0 bt186.2.1 bt186.2.2 2).bind fun bt189 => ((spec_l1Below.f s0_0 bt189.2.1 bt189.2.2 60).bind fun bt192 => ((spec_l1Once.f s0_0 bt192.2.1 bt192.2.2 2).bind fun bt196 => (if bt196.1 = true then ((spec_l8Draw.f k s0_0 bt196.2.1 bt196.2.2 1).bind fun bt199 => (spec_l22Draw.j0 k s0_0 bt199.2.1 bt199.2.2 (wrap64 (2 + t180)) (wrap64 (1 + t183)) bt186.1 true bt199.1 (wrap64 (1 + bt189.1)) (wrap64 (20 + bt192.1)))) else (spec_l22Draw.j0 k s0_0 bt196.2.1 bt196.2.2 (wrap64 (2 + t180)) (wrap64 (1 + t183)) bt186.1 true ([] : List Int) (wrap64 (1 + bt189.1)) (wrap64 (20 + bt192.1)))))))) = some (r1, r2, r3, r4, r5, r6, r7, r8, r9, r10) := H
  have A3 := QU A30
  clear A30
  replace H := QV.mp H
  obtain ⟨⟨t186, t187, t188⟩, A40, H⟩ := H
  replace H : ((spec_l1Below.f s0_0 t187 t188 2).bind fun bt189 => ((spec_l1Below.f s0_0 bt189.2.1 bt189.2.2 60).bind fun bt192 => ((spec_l1Once.f s0_0 bt192.2.1 bt192.2.2 2).bind fun bt196 => (if bt196.1 = true then ((spec_l8Draw.f k s0_0 bt196.2.1 bt196.2.2 1).bind fun bt199 => (spec_l22Draw.j0 k s0_0 bt199.2.1 bt199.2.2 (wrap64 (2 + t180)) (wrap64 (1 + t183)) t186 true bt199.1 (wrap64 (1 + bt189.1)) (wrap64 (20 + bt192.1)))) else (spec_l22Draw.j0 k s0_0 bt196.2.1 bt196.2.2 (wrap64 (2 + t180)) (wrap64 (1 + t183)) t186 true ([] : List Int) (wrap64 (1 + bt189.1)) (wrap64 (20 + bt192.1))))))) = some (r1, r2, r3, r4, r5, r6, r7, r8, r9, r10) := H
  have A4 := QU A40
  clear A40
  replace H := QV.mp H
  obtain ⟨⟨t189, t190, t191⟩, A50, H⟩ := H
  replace H : ((spec_l1Below.f s0_0 t190 t191 60).bind fun bt192 => ((spec_l1Once.f s0_0 bt192.2.1 bt192.2.2 2).bind fun bt196 => (if bt196.1 = true then ((spec_l8Draw.f k s0_0 bt196.2.1 bt196.2.2 1).bind fun bt199 => (spec_l22Draw.j0 k s0_0 bt199.2.1 bt199.2.2 (wrap64 (2 + t180)) (wrap64 (1 + t183)) t186 true bt199.1 (wrap64 (1 + t189)) (wrap64 (20 + bt192.1)))) else (spec_l22Draw.j0 k s0_0 bt196.2.1 bt196.2.2 (wrap64 (2 + t180)) (wrap64 (1 + t183)) t186 true ([] : List Int) (wrap64 (1 + t189)) (wrap64 (20 + bt192.1)))))) = some (r1, r2, r3, r4, r5, r6, r7, r8, r9, r10) := H
  have A5 := QU A50
  clear A50
  replace H := QV.mp H
  obtain ⟨⟨t192, t193, t194⟩, A60, H⟩ := H
  replace H : ((spec_l1Once.f s0_0 t193 t194 2).bind fun bt196 => (if bt196.1 = true then ((spec_l8Draw.f k s0_0 bt196.2.1 bt196.2.2 1).bind fun bt199 => (spec_l22Draw.j0 k s0_0 bt199.2.1 bt199.2.2 (wrap64 (2 + t180)) (wrap64 (1 + t183)) t186 true bt199.1 (wrap64 (1 + t189)) (wrap64 (20 + t192)))) else (spec_l22Draw.j0 k s0_0 bt196.2.1 bt196.2.2 (wrap64 (2 + t180)) (wrap64 (1 + t183)) t186 true ([] : List Int) (wrap64 (1 + t189)) (wrap64 (20 + t192))))) = some (r1, r2, r3, r4, r5, r6, r7, r8, r9, r10) := H
  have A6 := QU A60
  clear A60
  replace H := QV.mp H
  obtain ⟨⟨t196, t197, t198⟩, A70, H⟩ := H
  replace H : (if t196 = true then ((spec_l8Draw.f k s0_0 t197 t198 1).bind fun bt199 => (spec_l22Draw.j0 k s0_0 bt199.2.1 bt199.2.2 (wrap64 (2 + t180)) (wrap64 (1 + t183)) t186 true bt199.1 (wrap64 (1 + t189)) (wrap64 (20 + t192)))) else (spec_l22Draw.j0 k s0_0 t197 t198 (wrap64 (2 + t180)) (wrap64 (1 + t183)) t186 true ([] : List Int) (wrap64 (1 + t189)) (wrap64 (20 + t192)))) = some (r1, r2, r3, r4, r5, r6, r7, r8, r9, r10) := H
  have A7 := QU A70
  clear A70
  have HC8 := QU H
  clear H
  go_enter Try.func147, Try.ntmps147
  go_upto_if 20 with (first | ((with_reducible refine gate_dst (N := 2) rfl ?_); refine box_event ?hg (N := 2) ?hd (cs := #[.int .i64 0, .int .i64 0, .bool false, .bool false, .slice none 0 0, .slice none 0 0, .int .i64 0, .int .i64 0]) (t := 74) ?hr ?_; (case hd => rfl); (case hg => rfl); (case hr => first | (go_simp; done) | (go_simp; rfl)); intro gb179 hg w9 hbox hb; have n0_ := QU (IsS123.below (by repeat (first | (with_reducible first | exact HI0.out | apply IsS123.alloc | apply IsS123.drewN | apply IsS123.drew | apply IsS123.set_1 | apply IsS123.set_2) | exact HI0.out)) hb); have n1_ := QU (KeepBut.trans (by repeat (first | (with_reducible first | exact HK.out | apply KeepBut.set_ | apply QE | apply QH | apply QF) | exact HK.out)) (KeepBut.of_below hb g none) (.inl rfl)); have n2_ := QU (below_step (by repeat (first | (with_reducible first | exact HB.out | apply QC | apply QB | apply QD | refine QG ?_ (IsS123.ge HI0.out)) | exact HB.out)) hb); have n3_ := QU (hbox); have n4_ := QU ((by rw [hg]; exact (keep_size (w := w) (g := g) (row := none) (by repeat (first | (with_reducible first | exact HK.out | apply KeepBut.set_ | apply QE | apply QH | apply QF) | exact HK.out))) : w.heap.size ≤ gb179)); have n5_ := QU ((Nat.le_trans HW0.out (by rw [hg]; exact (keep_size (w := w) (g := g) (row := none) (by repeat (first | (with_reducible first | exact HK.out | apply KeepBut.set_ | apply QE | apply QH | apply QF) | exact HK.out))) : w.heap.size ≤ gb179) : w0.heap.size ≤ gb179)); have n6_ := QU ((by rw [hg]; exact Nat.ne_of_lt (IsS123.lt (show IsS123 w0 _ g s0_0 s0_1 s0_2 from by repeat (first | (with_reducible first | exact HI0.out | apply IsS123.alloc | apply IsS123.drewN | apply IsS123.drew | apply IsS123.set_1 | apply IsS123.set_2) | exact HI0.out))) : g ≠ gb179)); have n7_ := QU ((by rw [hg]; exact Nat.ne_of_gt (IsS123.lt (show IsS123 w0 _ g s0_0 s0_1 s0_2 from by repeat (first | (with_reducible first | exact HI0.out | apply IsS123.alloc | apply IsS123.drewN | apply IsS123.drew | apply IsS123.set_1 | apply IsS123.set_2) | exact HI0.out))) : gb179 ≠ g)); clear HI0; clear HK; clear HB; have HI0 := n0_; have HK := n1_; have HB := n2_; have BK179 := n3_; have GW179 := n4_; have GE179 := n5_; have NB0_179 := n6_; have NB179_0 := n7_; clear n0_ n1_ n2_ n3_ n4_ n5_ n6_ n7_; clear hb hbox hg) | ((with_reducible refine QM (f := 140) rfl ?_); refine goesL_ (some 5) rfl rfl Try.func140 (by kernel_rfl) rfl #[.pointer (some ⟨g, 0, none⟩), .int .i64 4] rfl (by (try simp only [List.map_toArray, List.map_cons, List.map_nil]); first | done | rfl | (simp only [List.length_drop, List.length_take]; rfl)) ?_; (with_reducible refine (spec_l1Below.calls g s0_0 s0_1 s0_2 4 t180 t181 t182 w0 _ ?side1 ?side2 A2.out).mono ?_); (case side1 => repeat (first | (with_reducible first | exact HI0.out | apply IsS123.alloc | apply IsS123.drewN | apply IsS123.drew | apply IsS123.set_1 | apply IsS123.set_2 | refine IsS123.far ?_ NB0_179.out _) | exact HI0.out)); (case side2 => repeat (first | (with_reducible first | exact HB.out | apply QC | apply QB | apply QD | refine QG ?_ (IsS123.ge HI0.out) | refine QG ?_ GE179.out) | exact HB.out)); rintro e w10 ⟨rfl, hi, hb, hk⟩; refine ⟨_, rfl, ?_⟩; have n0_ := QU (KeepBut.blk hk (g' := gb179) (o := .cells #[.int .i64 0, .int .i64 0, .bool false, .bool false, .slice none 0 0, .slice none 0 0, .int .i64 0, .int .i64 0] 74 (0, 0)) (by (with_reducible repeat (first | refine QI ?_ _ | refine QL ?_ | refine QJ ?_ _)); exact BK179.out) NB179_0.out (by simp)); have n1_ := QU (KeepBut.trans (by repeat (first | (with_reducible first | exact HK.out | apply KeepBut.set_ | apply QE | apply QH | apply QF | refine QS ?_ GW179.out _) | exact HK.out)) hk (.inl rfl)); have n2_ := QU (hb); have n3_ := QU (hi); clear BK179; clear HK; clear HB; clear HI0; have BK179 := n0_; have HK := n1_; have HB := n2_; have HI0 := n3_; clear n0_ n1_ n2_ n3_; (try clear hb); (try clear hb2); (try clear hk); (try clear hi)) | ((with_reducible refine QM (f := 140) rfl ?_); refine goesL_ (some 8) rfl rfl Try.func140 (by kernel_rfl) rfl #[.pointer (some ⟨g, 0, none⟩), .int .i64 6] rfl (by (try simp only [List.map_toArray, List.map_cons, List.map_nil]); first | done | rfl | (simp only [List.length_drop, List.length_take]; rfl)) ?_; (with_reducible refine (spec_l1Below.calls g s0_0 t181 t182 6 t183 t184 t185 w0 _ ?side1 ?side2 A3.out).mono ?_); (case side1 => repeat (first | (with_reducible first | exact HI0.out | apply IsS123.alloc | apply IsS123.drewN | apply IsS123.drew | apply IsS123.set_1 | apply IsS123.set_2 | refine IsS123.far ?_ NB0_179.out _) | exact HI0.out)); (case side2 => repeat (first | (with_reducible first | exact HB.out | apply QC | apply QB | apply QD | refine QG ?_ (IsS123.ge HI0.out) | refine QG ?_ GE179.out) | exact HB.out)); rintro e w11 ⟨rfl, hi, hb, hk⟩; refine ⟨_, rfl, ?_⟩; have n0_ := QU (KeepBut.blk hk (g' := gb179) (o := .cells #[.int .i64 0, .int .i64 0, .bool false, .bool false, .slice none 0 0, .slice none 0 0, .int .i64 0, .int .i64 0] 74 (0, 0)) (by (with_reducible repeat (first | refine QI ?_ _ | refine QL ?_ | refine QJ ?_ _)); exact BK179.out) NB179_0.out (by simp)); have n1_ := QU (KeepBut.trans (by repeat (first | (with_reducible first | exact HK.out | apply KeepBut.set_ | apply QE | apply QH | apply QF | refine QS ?_ GW179.out _) | exact HK.out)) hk (.inl rfl)); have n2_ := QU (hb); have n3_ := QU (hi); clear BK179; clear HK; clear HB; clear HI0; have BK179 := n0_; have HK := n1_; have HB := n2_; have HI0 := n3_; clear n0_ n1_ n2_ n3_; (try clear hb); (try clear hb2); (try clear hk); (try clear hi)) | ((with_reducible refine QM (f := 128) rfl ?_); refine goesL_ (some 11) rfl rfl Try.func128 (by kernel_rfl) rfl #[.pointer (some ⟨g, 0, none⟩), .int .i64 2] rfl (by (try simp only [List.map_toArray, List.map_cons, List.map_nil]); first | done | rfl | (simp only [List.length_drop, List.length_take]; rfl)) ?_; (with_reducible refine (spec_l1Once.calls g s0_0 t184 t185 2 t186 t187 t188 w0 _ ?side1 ?side2 A4.out).mono ?_); (case side1 => repeat (first | (with_reducible first | exact HI0.out | apply IsS123.alloc | apply IsS123.drewN | apply IsS123.drew | apply IsS123.set_1 | apply IsS123.set_2 | refine IsS123.far ?_ NB0_179.out _) | exact HI0.out)); (case side2 => repeat (first | (with_reducible first | exact HB.out | apply QC | apply QB | apply QD | refine QG ?_ (IsS123.ge HI0.out) | refine QG ?_ GE179.out) | exact HB.out)); rintro e w12 ⟨rfl, hi, hb, hk⟩; refine ⟨_, rfl, ?_⟩; have n0_ := QU (KeepBut.blk hk (g' := gb179) (o := .cells #[.int .i64 0, .int .i64 0, .bool false, .bool false, .slice none 0 0, .slice none 0 0, .int .i64 0, .int .i64 0] 74 (0, 0)) (by (with_reducible repeat (first | refine QI ?_ _ | refine QL ?_ | refine QJ ?_ _)); exact BK179.out) NB179_0.out (by simp)); have n1_ := QU (KeepBut.trans (by repeat (first | (with_reducible first | exact HK.out | apply KeepBut.set_ | apply QE | apply QH | apply QF | refine QS ?_ GW179.out _) | exact HK.out)) hk (.inl rfl)); have n2_ := QU (hb); have n3_ := QU (hi); clear BK179; clear HK; clear HB; clear HI0; have BK179 := n0_; have HK := n1_; have HB := n2_; have HI0 := n3_; clear n0_ n1_ n2_ n3_; (try clear hb); (try clear hb2); (try clear hk); (try clear hi)) | ((with_reducible refine QM (f := 140) rfl ?_); refine goesL_ (some 13) rfl rfl Try.func140 (by kernel_rfl) rfl #[.pointer (some ⟨g, 0, none⟩), .int .i64 2] rfl (by (try simp only [List.map_toArray, List.map_cons, List.map_nil]); first | done | rfl | (simp only [List.length_drop, List.length_take]; rfl)) ?_; (with_reducible refine (spec_l1Below.calls g s0_0 t187 t188 2 t189 t190 t191 w0 _ ?side1 ?side2 A5.out).mono ?_); (case side1 => repeat (first | (with_reducible first | exact HI0.out | apply IsS123.alloc | apply IsS123.drewN | apply IsS123.drew | apply IsS123.set_1 | apply IsS123.set_2 | refine IsS123.far ?_ NB0_179.out _) | exact HI0.out)); (case side2 => repeat (first | (with_reducible first | exact HB.out | apply QC | apply QB | apply QD | refine QG ?_ (IsS123.ge HI0.out) | refine QG ?_ GE179.out) | exact HB.out)); rintro e w13 ⟨rfl, hi, hb, hk⟩; refine ⟨_, rfl, ?_⟩; have n0_ := QU (KeepBut.blk hk (g' := gb179) (o := .cells #[.int .i64 0, .int .i64 0, .bool false, .bool false, .slice none 0 0, .slice none 0 0, .int .i64 0, .int .i64 0] 74 (0, 0)) (by (with_reducible repeat (first | refine QI ?_ _ | refine QL ?_ | refine QJ ?_ _)); exact BK179.out) NB179_0.out (by simp)); have n1_ := QU (KeepBut.trans (by repeat (first | (with_reducible first | exact HK.out | apply KeepBut.set_ | apply QE | apply QH | apply QF | refine QS ?_ GW179.out _) | exact HK.out)) hk (.inl rfl)); have n2_ := QU (hb); have n3_ := QU (hi); clear BK179; clear HK; clear HB; clear HI0; have BK179 := n0_; have HK := n1_; have HB := n2_; have HI0 := n3_; clear n0_ n1_ n2_ n3_; (try clear hb); (try clear hb2); (try clear hk); (try clear hi)) | ((with_reducible refine QM (f := 140) rfl ?_); refine goesL_ (some 16) rfl rfl Try.func140 (by kernel_rfl) rfl #[.pointer (some ⟨g, 0, none⟩), .int .i64 60] rfl (by (try simp only [List.map_toArray, List.map_cons, List.map_nil]); first | done | rfl | (simp only [List.length_drop, List.length_take]; rfl)) ?_; (with_reducible refine (spec_l1Below.calls g s0_0 t190 t191 60 t192 t193 t194 w0 _ ?side1 ?side2 A6.out).mono ?_); (case side1 => repeat (first | (with_reducible first | exact HI0.out | apply IsS123.alloc | apply IsS123.drewN | apply IsS123.drew | apply IsS123.set_1 | apply IsS123.set_2 | refine IsS123.far ?_ NB0_179.out _) | exact HI0.out)); (case side2 => repeat (first | (with_reducible first | exact HB.out | apply QC | apply QB | apply QD | refine QG ?_ (IsS123.ge HI0.out) | refine QG ?_ GE179.out) | exact HB.out)); rintro e w14 ⟨rfl, hi, hb, hk⟩; refine ⟨_, rfl, ?_⟩; have n0_ := QU (KeepBut.blk hk (g' := gb179) (o := .cells #[.int .i64 0, .int .i64 0, .bool false, .bool false, .slice none 0 0, .slice none 0 0, .int .i64 0, .int .i64 0] 74 (0, 0)) (by (with_reducible repeat (first | refine QI ?_ _ | refine QL ?_ | refine QJ ?_ _)); exact BK179.out) NB179_0.out (by simp)); have n1_ := QU (KeepBut.trans (by repeat (first | (with_reducible first | exact HK.out | apply KeepBut.set_ | apply QE | apply QH | apply QF | refine QS ?_ GW179.out _) | exact HK.out)) hk (.inl rfl)); have n2_ := QU (hb); have n3_ := QU (hi); clear BK179; clear HK; clear HB; clear HI0; have BK179 := n0_; have HK := n1_; have HB := n2_; have HI0 := n3_; clear n0_ n1_ n2_ n3_; (try clear hb); (try clear hb2); (try clear hk); (try clear hi)) | ((with_reducible refine gate_dst (N := 3) rfl ?_); refine box_event ?hg (N := 3) ?hd (cs := #[.int .i64 0, .int .i64 0, .bool false, .bool false, .slice none 0 0, .slice none 0 0, .int .i64 0, .int .i64 0]) (t := 74) ?hr ?_; (case hd => rfl); (case hg => rfl); (case hr => first | (go_simp; done) | (go_simp; rfl)); intro gb195 hg w15 hbox hb; have n0_ := QU (IsS123.below (by repeat (first | (with_reducible first | exact HI0.out | apply IsS123.alloc | apply IsS123.drewN | apply IsS123.drew | apply IsS123.set_1 | apply IsS123.set_2 | refine IsS123.far ?_ NB0_179.out _) | exact HI0.out)) hb); have n1_ := QU (blk_below (g := gb179) (o := .cells #[.int .i64 0, .int .i64 0, .bool false, .bool false, .slice none 0 0, .slice none 0 0, .int .i64 0, .int .i64 0] 74 (0, 0)) (by (with_reducible repeat (first | refine QI ?_ _ | refine QL ?_ | refine QJ ?_ _)); exact BK179.out) hb); have n2_ := QU (KeepBut.trans (by repeat (first | (with_reducible first | exact HK.out | apply KeepBut.set_ | apply QE | apply QH | apply QF | refine QS ?_ GW179.out _) | exact HK.out)) (KeepBut.of_below hb g none) (.inl rfl)); have n3_ := QU (below_step (by repeat (first | (with_reducible first | exact HB.out | apply QC | apply QB | apply QD | refine QG ?_ (IsS123.ge HI0.out) | refine QG ?_ GE179.out) | exact HB.out)) hb); have n4_ := QU (hbox); have n5_ := QU ((by rw [hg]; exact (keep_size (w := w) (g := g) (row := none) (by repeat (first | (with_reducible first | exact HK.out | apply KeepBut.set_ | apply QE | apply QH | apply QF | refine QS ?_ GW179.out _) | exact HK.out))) : w.heap.size ≤ gb195)); have n6_ := QU ((Nat.le_trans HW0.out (by rw [hg]; exact (keep_size (w := w) (g := g) (row := none) (by repeat (first | (with_reducible first | exact HK.out | apply KeepBut.set_ | apply QE | apply QH | apply QF | refine QS ?_ GW179.out _) | exact HK.out))) : w.heap.size ≤ gb195) : w0.heap.size ≤ gb195)); have n7_ := QU ((by rw [hg]; exact Nat.ne_of_lt (blk_lt (g := gb179) (o := .cells #[.int .i64 0, .int .i64 0, .bool false, .bool false, .slice none 0 0, .slice none 0 0, .int .i64 0, .int .i64 0] 74 (0, 0)) (by (with_reducible repeat (first | refine QI ?_ _ | refine QL ?_ | refine QJ ?_ _)); exact BK179.out)) : gb179 ≠ gb195)); have n8_ := QU ((by rw [hg]; exact Nat.ne_of_gt (blk_lt (g := gb179) (o := .cells #[.int .i64 0, .int .i64 0, .bool false, .bool false, .slice none 0 0, .slice none 0 0, .int .i64 0, .int .i64 0] 74 (0, 0)) (by (with_reducible repeat (first | refine QI ?_ _ | refine QL ?_ | refine QJ ?_ _)); exact BK179.out)) : gb195 ≠ gb179)); have n9_ := QU ((by rw [hg]; exact Nat.ne_of_lt (IsS123.lt (show IsS123 w0 _ g s0_0 t193 t194 from by repeat (first | (with_reducible first | exact HI0.out | apply IsS123.alloc | apply IsS123.drewN | apply IsS123.drew | apply IsS123.set_1 | apply IsS123.set_2 | refine IsS123.far ?_ NB0_179.out _) | exact HI0.out))) : g ≠ gb195)); have n10_ := QU ((by rw [hg]; exact Nat.ne_of_gt (IsS123.lt (show IsS123 w0 _ g s0_0 t193 t194 from by repeat (first | (with_reducible first | exact HI0.out | apply IsS123.alloc | apply IsS123.drewN | apply IsS123.drew | apply IsS123.set_1 | apply IsS123.set_2 | refine IsS123.far ?_ NB0_179.out _) | exact HI0.out))) : gb195 ≠ g)); clear HI0; clear BK179; clear HK; clear HB; have HI0 := n0_; have BK179 := n1_; have HK := n2_; have HB := n3_; have BK195 := n4_; have GW195 := n5_; have GE195 := n6_; have NB179_195 := n7_; have NB195_179 := n8_; have NB0_195 := n9_; have NB195_0 := n10_; clear n0_ n1_ n2_ n3_ n4_ n5_ n6_ n7_ n8_ n9_ n10_; clear hb hbox hg; have hnb16 := NB195_179.out; have hnc16 := NB179_195.out; have hnb17 := NB195_0.out; have hnc17 := NB0_195.out; have hcz18_0 : w15.cell? ⟨gb195, 0, none⟩ = some (.int .i64 0) := (QN BK195.out 0).trans rfl; have hcz18_1 : w15.cell? ⟨gb195, 1, none⟩ = some (.int .i64 0) := (QN BK195.out 1).trans rfl; have hcz18_2 : w15.cell? ⟨gb195, 2, none⟩ = some (.bool false) := (QN BK195.out 2).trans rfl; have hcz18_3 : w15.cell? ⟨gb195, 3, none⟩ = some (.bool false) := (QN BK195.out 3).trans rfl; have hcz18_4 : w15.cell? ⟨gb195, 4, none⟩ = some (.slice none 0 0) := (QN BK195.out 4).trans rfl; have hcz18_5 : w15.cell? ⟨gb195, 5, none⟩ = some (.slice none 0 0) := (QN BK195.out 5).trans rfl; have hcz18_6 : w15.cell? ⟨gb195, 6, none⟩ = some (.int .i64 0) := (QN BK195.out 6).trans rfl; have hcz18_7 : w15.cell? ⟨gb195, 7, none⟩ = some (.int .i64 0) := (QN BK195.out 7).trans rfl; have hfz18_0 := QK BK195.out 0; have hfz18_1 := QK BK195.out 1; have hfz18_2 := QK BK195.out 2; have hfz18_3 := QK BK195.out 3; have hfz18_4 := QK BK195.out 4; have hfz18_5 := QK BK195.out 5; have hfz18_6 := QK BK195.out 6; have hfz18_7 := QK BK195.out 7) | ((with_reducible refine QM (f := 128) rfl ?_); refine goesL_ (some 20) rfl rfl Try.func128 (by kernel_rfl) rfl #[.pointer (some ⟨g, 0, none⟩), .int .i64 2] rfl (by (try simp only [List.map_toArray, List.map_cons, List.map_nil]); first | done | rfl | (simp only [List.length_drop, List.length_take]; rfl)) ?_; (with_reducible refine (spec_l1Once.calls g s0_0 t193 t194 2 t196 t197 t198 w0 _ ?side1 ?side2 A7.out).mono ?_); (case side1 => repeat (first | (with_reducible first | exact HI0.out | apply IsS123.alloc | apply IsS123.drewN | apply IsS123.drew | apply IsS123.set_1 | apply IsS123.set_2 | refine IsS123.far ?_ NB0_179.out _ | refine IsS123.far ?_ NB0_195.out _) | exact HI0.out)); (case side2 => repeat (first | (with_reducible first | exact HB.out | apply QC | apply QB | apply QD | refine QG ?_ (IsS123.ge HI0.out) | refine QG ?_ GE179.out | refine QG ?_ GE195.out) | exact HB.out)); rintro e w19 ⟨rfl, hi, hb, hk⟩; refine ⟨_, rfl, ?_⟩; have n0_ := QU (KeepBut.blk hk (g' := gb179) (o := .cells #[.int .i64 0, .int .i64 0, .bool false, .bool false, .slice none 0 0, .slice none 0 0, .int .i64 0, .int .i64 0] 74 (0, 0)) (by (with_reducible repeat (first | refine QI ?_ _ | refine QL ?_ | refine QJ ?_ _)); refine blk_far ?_ NB179_195.out _; (with_reducible repeat (first | refine QI ?_ _ | refine QL ?_ | refine QJ ?_ _)); refine blk_far ?_ NB179_195.out _; (with_reducible repeat (first | refine QI ?_ _ | refine QL ?_ | refine QJ ?_ _)); refine blk_far ?_ NB179_195.out _; (with_reducible repeat (first | refine QI ?_ _ | refine QL ?_ | refine QJ ?_ _)); refine blk_far ?_ NB179_195.out _; (with_reducible repeat (first | refine QI ?_ _ | refine QL ?_ | refine QJ ?_ _)); refine blk_far ?_ NB179_195.out _; (with_reducible repeat (first | refine QI ?_ _ | refine QL ?_ | refine QJ ?_ _)); refine blk_far ?_ NB179_195.out _; (with_reducible repeat (first | refine QI ?_ _ | refine QL ?_ | refine QJ ?_ _)); refine blk_far ?_ NB179_195.out _; (with_reducible repeat (first | refine QI ?_ _ | refine QL ?_ | refine QJ ?_ _)); refine blk_far ?_ NB179_195.out _; (with_reducible repeat (first | refine QI ?_ _ | refine QL ?_ | refine QJ ?_ _)); exact BK179.out) NB179_0.out (by simp)); have n1_ := QU (KeepBut.blk hk (g' := gb195) (o := .cells #[.int .i64 (wrap64 (2 + t180)), .int .i64 (wrap64 (1 + t183)), .bool t186, .bool true, .slice none 0 0, .slice none 0 0, .int .i64 (wrap64 (1 + t189)), .int .i64 (wrap64 (20 + t192))] 74 (0, 0)) (by (with_reducible repeat (first | refine QI ?_ _ | refine QL ?_ | refine QJ ?_ _)); refine blk_put (cs := #[.int .i64 (wrap64 (2 + t180)), .int .i64 (wrap64 (1 + t183)), .bool t186, .bool true, .slice none 0 0, .slice none 0 0, .int .i64 (wrap64 (1 + t189)), .int .i64 0]) ?_ 7 _ rfl; (with_reducible repeat (first | refine QI ?_ _ | refine QL ?_ | refine QJ ?_ _)); refine blk_put (cs := #[.int .i64 (wrap64 (2 + t180)), .int .i64 (wrap64 (1 + t183)), .bool t186, .bool true, .slice none 0 0, .slice none 0 0, .int .i64 0, .int .i64 0]) ?_ 6 _ rfl; (with_reducible repeat (first | refine QI ?_ _ | refine QL ?_ | refine QJ ?_ _)); refine blk_put (cs := #[.int .i64 (wrap64 (2 + t180)), .int .i64 (wrap64 (1 + t183)), .bool t186, .bool true, .slice none 0 0, .slice none 0 0, .int .i64 0, .int .i64 0]) ?_ 5 _ rfl; (with_reducible repeat (first | refine QI ?_ _ | refine QL ?_ | refine QJ ?_ _)); refine blk_put (cs := #[.int .i64 (wrap64 (2 + t180)), .int .i64 (wrap64 (1 + t183)), .bool t186, .bool true, .slice none 0 0, .slice none 0 0, .int .i64 0, .int .i64 0]) ?_ 4 _ rfl; (with_reducible repeat (first | refine QI ?_ _ | refine QL ?_ | refine QJ ?_ _)); refine blk_put (cs := #[.int .i64 (wrap64 (2 + t180)), .int .i64 (wrap64 (1 + t183)), .bool t186, .bool false, .slice none 0 0, .slice none 0 0, .int .i64 0, .int .i64 0]) ?_ 3 _ rfl; (with_reducible repeat (first | refine QI ?_ _ | refine QL ?_ | refine QJ ?_ _)); refine blk_put (cs := #[.int .i64 (wrap64 (2 + t180)), .int .i64 (wrap64 (1 + t183)), .bool false, .bool false, .slice none 0 0, .slice none 0 0, .int .i64 0, .int .i64 0]) ?_ 2 _ rfl; (with_reducible repeat (first | refine QI ?_ _ | refine QL ?_ | refine QJ ?_ _)); refine blk_put (cs := #[.int .i64 (wrap64 (2 + t180)), .int .i64 0, .bool false, .bool false, .slice none 0 0, .slice none 0 0, .int .i64 0, .int .i64 0]) ?_ 1 _ rfl; (with_reducible repeat (first | refine QI ?_ _ | refine QL ?_ | refine QJ ?_ _)); refine blk_put (cs := #[.int .i64 0, .int .i64 0, .bool false, .bool false, .slice none 0 0, .slice none 0 0, .int .i64 0, .int .i64 0]) ?_ 0 _ rfl; (with_reducible repeat (first | refine QI ?_ _ | refine QL ?_ | refine QJ ?_ _)); exact BK195.out) NB195_0.out (by simp)); have n2_ := QU (KeepBut.trans (by repeat (first | (with_reducible first | exact HK.out | apply KeepBut.set_ | apply QE | apply QH | apply QF | refine QS ?_ GW179.out _ | refine QS ?_ GW195.out _) | exact HK.out)) hk (.inl rfl)); have n3_ := QU (hb); have n4_ := QU (hi); clear BK179; clear BK195; clear HK; clear HB; clear HI0; have BK179 := n0_; have BK195 := n1_; have HK := n2_; have HB := n3_; have HI0 := n4_; clear n0_ n1_ n2_ n3_ n4_; (try clear hb); (try clear hb2); (try clear hk); (try clear hi)))
  (try simp only [Act.put, List.setIfInBounds_toArray, List.set_cons_zero, List.set_cons_succ])
  go_cut [] (fun wc => ∃ (kq : Nat) (x1001_7 : Int) (x1002_7 : Int) (x196004_7 : List Int) (u196004 : Value), Aside0 (spec_l22Draw.j0 kq s0_0 x1001_7 x1002_7 (wrap64 (2 + t180)) (wrap64 (1 + t183)) t186 true x196004_7 (wrap64 (1 + t189)) (wrap64 (20 + t192)) = some (r1, r2, r3, r4, r5, r6, r7, r8, r9, r10)) ∧ Aside0 (kq ≤ k) ∧ Aside0 (Kd.R (Kd.int .i64) 3 wc w.heap.size (fun _ => True) u196004 x196004_7) ∧ Aside0 (wc.heap[gb179]? = some (.cells #[.int .i64 0, .int .i64 0, .bool false, .bool false, (.slice none 0 0), (.slice none 0 0), .int .i64 0, .int .i64 0] 74 (0, 0))) ∧ Aside0 (wc.heap[gb195]? = some (.cells #[.int .i64 (wrap64 (2 + t180)), .int .i64 (wrap64 (1 + t183)), .bool t186, .bool true, u196004, (.slice none 0 0), .int .i64 (wrap64 (1 + t189)), .int .i64 (wrap64 (20 + t192))] 74 (0, 0))) ∧ Aside0 (IsS123 w0 wc g s0_0 x1001_7 x1002_7) ∧ Aside0 (KeepBut w wc g none) ∧ Aside0 (Below w0.heap.size w0 wc))
  case first =>
    have H := HC8.out
    clear HC8
    by_cases c20 : t196 = true
    · subst c20
      have H1 : ((spec_l8Draw.f k s0_0 t197 t198 1).bind fun bt199 => (spec_l22Draw.j0 k s0_0 bt199.2.1 bt199.2.2 (wrap64 (2 + t180)) (wrap64 (1 + t183)) t186 true bt199.1 (wrap64 (1 + t189)) (wrap64 (20 + t192)))) = some (r1, r2, r3, r4, r5, r6, r7, r8, r9, r10) := by rw [if_pos rfl] at H; exact H
      clear H
      have H := H1
      clear H1
      replace H := QV.mp H
      obtain ⟨⟨t199, t202, t203⟩, A210, H⟩ := H
      replace H : (spec_l22Draw.j0 k s0_0 t202 t203 (wrap64 (2 + t180)) (wrap64 (1 + t183)) t186 true t199 (wrap64 (1 + t189)) (wrap64 (20 + t192))) = some (r1, r2, r3, r4, r5, r6, r7, r8, r9, r10) := H
      have A21 := QU A210
      clear A210
      have H' := QU H
      clear H
      go_wp2_with (first | ((with_reducible refine QM (f := 157) rfl ?_); refine goesL_ (some 22) rfl rfl Try.func157 (by kernel_rfl) rfl #[.pointer (some ⟨g, 0, none⟩), .int .i64 1] rfl (by (try simp only [List.map_toArray, List.map_cons, List.map_nil]); first | done | rfl | (simp only [List.length_drop, List.length_take]; rfl)) ?_; (with_reducible refine (spec_l8Draw.calls k g s0_0 t197 t198 1 t199 t202 t203 w0 _ ?side1 ?side2 A21.out).mono ?_); (case side1 => repeat (first | (with_reducible first | exact HI0.out | apply IsS123.alloc | apply IsS123.drewN | apply IsS123.drew | apply IsS123.set_1 | apply IsS123.set_2 | refine IsS123.far ?_ NB0_179.out _ | refine IsS123.far ?_ NB0_195.out _) | exact HI0.out)); (case side2 => repeat (first | (with_reducible first | exact HB.out | apply QC | apply QB | apply QD | refine QG ?_ (IsS123.ge HI0.out) | refine QG ?_ GE179.out | refine QG ?_ GE195.out) | exact HB.out)); rintro e w22 ⟨v200, rfl, ho0, hi, hb, hk⟩; refine ⟨_, rfl, ?_⟩; have n0_ := QU (KeepBut.blk hk (g' := gb179) (o := .cells #[.int .i64 0, .int .i64 0, .bool false, .bool false, .slice none 0 0, .slice none 0 0, .int .i64 0, .int .i64 0] 74 (0, 0)) (by (with_reducible repeat (first | refine QI ?_ _ | refine QL ?_ | refine QJ ?_ _)); exact BK179.out) NB179_0.out (by simp)); have n1_ := QU (KeepBut.blk hk (g' := gb195) (o := .cells #[.int .i64 (wrap64 (2 + t180)), .int .i64 (wrap64 (1 + t183)), .bool t186, .bool true, .slice none 0 0, .slice none 0 0, .int .i64 (wrap64 (1 + t189)), .int .i64 (wrap64 (20 + t192))] 74 (0, 0)) (by (with_reducible repeat (first | refine QI ?_ _ | refine QL ?_ | refine QJ ?_ _)); exact BK195.out) NB195_0.out (by simp)); have n2_ := QU (Kd.R_lower ho0 (keep_size (w := w) (g := g) (row := none) (by repeat (first | (with_reducible first | exact HK.out | apply KeepBut.set_ | apply QE | apply QH | apply QF | refine QS ?_ GW179.out _ | refine QS ?_ GW195.out _) | exact HK.out)))); have n3_ := QU (KeepBut.trans (by repeat (first | (with_reducible first | exact HK.out | apply KeepBut.set_ | apply QE | apply QH | apply QF | refine QS ?_ GW179.out _ | refine QS ?_ GW195.out _) | exact HK.out)) hk (.inl rfl)); have n4_ := QU (hb); have n5_ := QU (hi); clear BK179; clear BK195; clear HK; clear HB; clear HI0; have BK179 := n0_; have BK195 := n1_; have HO201 := n2_; have HK := n3_; have HB := n4_; have HI0 := n5_; clear n0_ n1_ n2_ n3_ n4_ n5_; (try clear hb); (try clear hb2); (try clear hk); (try clear hi); (try clear ho0); obtain ⟨Ao23, co23, eo23⟩ := Kd.R_slice HO201.out; subst eo23; have hnb24 := NB195_179.out; have hnc24 := NB179_195.out; have hnb25 := NB195_0.out; have hnc25 := NB0_195.out; have hcz26_0 : w22.cell? ⟨gb195, 0, none⟩ = some (.int .i64 (wrap64 (2 + t180))) := (QN BK195.out 0).trans rfl; have hcz26_1 : w22.cell? ⟨gb195, 1, none⟩ = some (.int .i64 (wrap64 (1 + t183))) := (QN BK195.out 1).trans rfl; have hcz26_2 : w22.cell? ⟨gb195, 2, none⟩ = some (.bool t186) := (QN BK195.out 2).trans rfl; have hcz26_3 : w22.cell? ⟨gb195, 3, none⟩ = some (.bool true) := (QN BK195.out 3).trans rfl; have hcz26_4 : w22.cell? ⟨gb195, 4, none⟩ = some (.slice none 0 0) := (QN BK195.out 4).trans rfl; have hcz26_5 : w22.cell? ⟨gb195, 5, none⟩ = some (.slice none 0 0) := (QN BK195.out 5).trans rfl; have hcz26_6 : w22.cell? ⟨gb195, 6, none⟩ = some (.int .i64 (wrap64 (1 + t189))) := (QN BK195.out 6).trans rfl; have hcz26_7 : w22.cell? ⟨gb195, 7, none⟩ = some (.int .i64 (wrap64 (20 + t192))) := (QN BK195.out 7).trans rfl; have hfz26_0 := QK BK195.out 0; have hfz26_1 := QK BK195.out 1; have hfz26_2 := QK BK195.out 2; have hfz26_3 := QK BK195.out 3; have hfz26_4 := QK BK195.out 4; have hfz26_5 := QK BK195.out 5; have hfz26_6 := QK BK195.out 6; have hfz26_7 := QK BK195.out 7))
      go_meet
      case rel => exact ⟨_, (t202), (t203), (t199), (.slice Ao23 t199.length co23), H', ⟨by first | omega | exact Nat.le_refl _⟩, ⟨by (with_reducible repeat (first | apply QO | apply QP | apply QR)); exact QT (far_r (Kd.R_types HO201.out BK195.out (by decide))) (fun _ hk => trivial)⟩, ⟨by (with_reducible repeat (first | refine QI ?_ _ | refine QL ?_ | refine QJ ?_ _)); refine blk_far ?_ NB179_195.out _; (with_reducible repeat (first | refine QI ?_ _ | refine QL ?_ | refine QJ ?_ _)); exact BK179.out⟩, ⟨by (with_reducible repeat (first | refine QI ?_ _ | refine QL ?_ | refine QJ ?_ _)); refine blk_put (cs := #[.int .i64 (wrap64 (2 + t180)), .int .i64 (wrap64 (1 + t183)), .bool t186, .bool true, .slice none 0 0, .slice none 0 0, .int .i64 (wrap64 (1 + t189)), .int .i64 (wrap64 (20 + t192))]) ?_ 4 _ rfl; (with_reducible repeat (first | refine QI ?_ _ | refine QL ?_ | refine QJ ?_ _)); exact BK195.out⟩, ⟨by repeat (first | (with_reducible first | exact HI0.out | apply IsS123.alloc | apply IsS123.drewN | apply IsS123.drew | apply IsS123.set_1 | apply IsS123.set_2 | refine IsS123.far ?_ NB0_179.out _ | refine IsS123.far ?_ NB0_195.out _) | exact HI0.out)⟩, ⟨by repeat (first | (with_reducible first | exact HK.out | apply KeepBut.set_ | apply QE | apply QH | apply QF | refine QS ?_ GW179.out _ | refine QS ?_ GW195.out _) | exact HK.out)⟩, ⟨by repeat (first | (with_reducible first | exact HB.out | apply QC | apply QB | apply QD | refine QG ?_ (IsS123.ge HI0.out) | refine QG ?_ GE179.out | refine QG ?_ GE195.out) | exact HB.out)⟩⟩
    · replace c20 := Bool.eq_false_iff.mpr c20
      subst c20
      have H1 : (spec_l22Draw.j0 k s0_0 t197 t198 (wrap64 (2 + t180)) (wrap64 (1 + t183)) t186 true ([] : List Int) (wrap64 (1 + t189)) (wrap64 (20 + t192))) = some (r1, r2, r3, r4, r5, r6, r7, r8, r9, r10) := by rw [if_neg (show ¬ (false = true) by decide)] at H; exact H
      clear H
      have H := H1
      clear H1
      have H' := QU H
      clear H
      go_wp2
      go_meet
      case rel => exact ⟨_, (t197), (t198), (([] : List Int)), (.slice none 0 0), H', ⟨by first | omega | exact Nat.le_refl _⟩, ⟨by first | exact Kd.R_nil _ _ _ _ _ | exact Kd.N_nil _ _ _ _ _ | exact Kd.V_nil _ _ _ _ _ | exact Kd.Q_nil _ _ _ _ _ | exact Kd.S_nil _ _ _ _ _⟩, ⟨by (with_reducible repeat (first | refine QI ?_ _ | refine QL ?_ | refine QJ ?_ _)); exact BK179.out⟩, ⟨by (with_reducible repeat (first | refine QI ?_ _ | refine QL ?_ | refine QJ ?_ _)); exact BK195.out⟩, ⟨by repeat (first | (with_reducible first | exact HI0.out | apply IsS123.alloc | apply IsS123.drewN | apply IsS123.drew | apply IsS123.set_1 | apply IsS123.set_2 | refine IsS123.far ?_ NB0_179.out _ | refine IsS123.far ?_ NB0_195.out _) | exact HI0.out)⟩, ⟨by repeat (first | (with_reducible first | exact HK.out | apply KeepBut.set_ | apply QE | apply QH | apply QF | refine QS ?_ GW179.out _ | refine QS ?_ GW195.out _) | exact HK.out)⟩, ⟨by repeat (first | (with_reducible first | exact HB.out | apply QC | apply QB | apply QD | refine QG ?_ (IsS123.ge HI0.out) | refine QG ?_ GE179.out | refine QG ?_ GE195.out) | exact HB.out)⟩⟩
  case rest =>
    clear HC8
    try clear c1
    try clear c2
    try clear p2
    try clear p6
    try clear c12
    try clear c14
    try clear c15
    try clear c16
    try clear c17
    try clear c20
    try clear c24
    try clear c25
    try clear hcz18_0
    try clear hcz18_1
    try clear hcz18_2
    try clear hcz18_3
    try clear hcz18_4
    try clear hcz18_5
    try clear hcz18_6
    try clear hcz18_7
    try clear hcz26_0
    try clear hcz26_1
    try clear hcz26_2
    try clear hcz26_3
    try clear hcz26_4
    try clear hcz26_5
    try clear hcz26_6
    try clear hcz26_7
    try clear hfz18_0
    try clear hfz18_1
    try clear hfz18_2
    try clear hfz18_3
    try clear hfz18_4
    try clear hfz18_5
    try clear hfz18_6
    try clear hfz18_7
    try clear hfz26_0
    try clear hfz26_1
    try clear hfz26_2
    try clear hfz26_3
    try clear hfz26_4
    try clear hfz26_5
    try clear hfz26_6
    try clear hfz26_7
    obtain ⟨kq, x1001_7, x1002_7, x196004_7, u196004, HA, HJ7, HO_196004, BK179, BK195, HI0, HK, HB⟩ := hcut
    cases kq with
    | zero => exact absurd HA.out (by simp [spec_l22Draw.j0])
    | succ kj7 =>
      have H := HA.out
      clear HA
      simp only [spec_l22Draw.j0] at H
      replace H := QV.mp H
      obtain ⟨⟨t204, t205, t206⟩, A270, H⟩ := H
      replace H : (if t204 = true then ((spec_l8Draw.f kj7 s0_0 t205 t206 1).bind fun bt207 => (some ((wrap64 (2 + t180)), (wrap64 (1 + t183)), t186, true, x196004_7, bt207.1, (wrap64 (1 + t189)), (wrap64 (20 + t192)), bt207.2.1, bt207.2.2))) else (some ((wrap64 (2 + t180)), (wrap64 (1 + t183)), t186, true, x196004_7, ([] : List Int), (wrap64 (1 + t189)), (wrap64 (20 + t192)), t205, t206))) = some (r1, r2, r3, r4, r5, r6, r7, r8, r9, r10) := H
      have A27 := QU A270
      clear A270
      by_cases c28 : t204 = true
      · subst c28
        have H1 : ((spec_l8Draw.f kj7 s0_0 t205 t206 1).bind fun bt207 => (some ((wrap64 (2 + t180)), (wrap64 (1 + t183)), t186, true, x196004_7, bt207.1, (wrap64 (1 + t189)), (wrap64 (20 + t192)), bt207.2.1, bt207.2.2))) = some (r1, r2, r3, r4, r5, r6, r7, r8, r9, r10) := by rw [if_pos rfl] at H; exact H
        clear H
        have H := H1
        clear H1
        replace H := QV.mp H
        obtain ⟨⟨t207, t210, t211⟩, A290, H⟩ := H
        replace H : (some ((wrap64 (2 + t180)), (wrap64 (1 + t183)), t186, true, x196004_7, t207, (wrap64 (1 + t189)), (wrap64 (20 + t192)), t210, t211)) = some (r1, r2, r3, r4, r5, r6, r7, r8, r9, r10) := H
        have A29 := QU A290
        clear A290
        simp only [Option.some.injEq, Prod.mk.injEq] at H
        obtain ⟨rfl, rfl, rfl, rfl, rfl, rfl, rfl, rfl, rfl, rfl⟩ := H
        go_wp2_with (first | ((with_reducible refine QM (f := 128) rfl ?_); refine goesL_ (some 25) rfl rfl Try.func128 (by kernel_rfl) rfl #[.pointer (some ⟨g, 0, none⟩), .int .i64 2] rfl (by (try simp only [List.map_toArray, List.map_cons, List.map_nil]); first | done | rfl | (simp only [List.length_drop, List.length_take]; rfl)) ?_; (with_reducible refine (spec_l1Once.calls g s0_0 x1001_7 x1002_7 2 true t205 t206 w0 _ ?side1 ?side2 A27.out).mono ?_); (case side1 => repeat (first | (with_reducible first | exact HI0.out | apply IsS123.alloc | apply IsS123.drewN | apply IsS123.drew | apply IsS123.set_1 | apply IsS123.set_2 | refine IsS123.far ?_ NB0_179.out _ | refine IsS123.far ?_ NB0_195.out _) | exact HI0.out)); (case side2 => repeat (first | (with_reducible first | exact HB.out | apply QC | apply QB | apply QD | refine QG ?_ (IsS123.ge HI0.out) | refine QG ?_ GE179.out | refine QG ?_ GE195.out) | exact HB.out)); rintro e w30 ⟨rfl, hi, hb, hk⟩; refine ⟨_, rfl, ?_⟩; have n0_ := QU (QT (Kd.R_keep (IsS123.apart (show IsS123 w0 _ g s0_0 x1001_7 x1002_7 from by repeat (first | (with_reducible first | exact HI0.out | apply IsS123.alloc | apply IsS123.drewN | apply IsS123.drew | apply IsS123.set_1 | apply IsS123.set_2 | refine IsS123.far ?_ NB0_179.out _ | refine IsS123.far ?_ NB0_195.out _) | exact HI0.out)) (by (with_reducible repeat (first | apply QO | apply QP | apply QR)); exact HO_196004.out) (by decide)) hk (fun _ h => h.2)) (fun _ h => h.1)); have n1_ := QU (KeepBut.blk hk (g' := gb179) (o := .cells #[.int .i64 0, .int .i64 0, .bool false, .bool false, .slice none 0 0, .slice none 0 0, .int .i64 0, .int .i64 0] 74 (0, 0)) (by (with_reducible repeat (first | refine QI ?_ _ | refine QL ?_ | refine QJ ?_ _)); exact BK179.out) NB179_0.out (by simp)); have n2_ := QU (KeepBut.blk hk (g' := gb195) (o := .cells #[.int .i64 (wrap64 (2 + t180)), .int .i64 (wrap64 (1 + t183)), .bool t186, .bool true, u196004, .slice none 0 0, .int .i64 (wrap64 (1 + t189)), .int .i64 (wrap64 (20 + t192))] 74 (0, 0)) (by (with_reducible repeat (first | refine QI ?_ _ | refine QL ?_ | refine QJ ?_ _)); exact BK195.out) NB195_0.out (by simp)); have n3_ := QU (KeepBut.trans (by repeat (first | (with_reducible first | exact HK.out | apply KeepBut.set_ | apply QE | apply QH | apply QF | refine QS ?_ GW179.out _ | refine QS ?_ GW195.out _) | exact HK.out)) hk (.inl rfl)); have n4_ := QU (hb); have n5_ := QU (hi); clear HO_196004; clear BK179; clear BK195; clear HK; clear HB; clear HI0; have HO_196004 := n0_; have BK179 := n1_; have BK195 := n2_; have HK := n3_; have HB := n4_; have HI0 := n5_; clear n0_ n1_ n2_ n3_ n4_ n5_; (try clear hb); (try clear hb2); (try clear hk); (try clear hi)) | ((with_reducible refine QM (f := 157) rfl ?_); refine goesL_ (some 27) rfl rfl Try.func157 (by kernel_rfl) rfl #[.pointer (some ⟨g, 0, none⟩), .int .i64 1] rfl (by (try simp only [List.map_toArray, List.map_cons, List.map_nil]); first | done | rfl | (simp only [List.length_drop, List.length_take]; rfl)) ?_; (with_reducible refine (spec_l8Draw.calls kj7 g s0_0 t205 t206 1 t207 t210 t211 w0 _ ?side1 ?side2 A29.out).mono ?_); (case side1 => repeat (first | (with_reducible first | exact HI0.out | apply IsS123.alloc | apply IsS123.drewN | apply IsS123.drew | apply IsS123.set_1 | apply IsS123.set_2 | refine IsS123.far ?_ NB0_179.out _ | refine IsS123.far ?_ NB0_195.out _) | exact HI0.out)); (case side2 => repeat (first | (with_reducible first | exact HB.out | apply QC | apply QB | apply QD | refine QG ?_ (IsS123.ge HI0.out) | refine QG ?_ GE179.out | refine QG ?_ GE195.out) | exact HB.out)); rintro e w31 ⟨v208, rfl, ho0, hi, hb, hk⟩; refine ⟨_, rfl, ?_⟩; have n0_ := QU (QT (Kd.R_told (Kd.R_oldK (IsS123.apart (show IsS123 w0 _ g s0_0 t205 t206 from by repeat (first | (with_reducible first | exact HI0.out | apply IsS123.alloc | apply IsS123.drewN | apply IsS123.drew | apply IsS123.set_1 | apply IsS123.set_2 | refine IsS123.far ?_ NB0_179.out _ | refine IsS123.far ?_ NB0_195.out _) | exact HI0.out)) (by (with_reducible repeat (first | apply QO | apply QP | apply QR)); exact HO_196004.out) (by decide)) hk) (Kd.R_base ho0)) (fun _ h_ => h_.1)); have n1_ := QU (KeepBut.blk hk (g' := gb179) (o := .cells #[.int .i64 0, .int .i64 0, .bool false, .bool false, .slice none 0 0, .slice none 0 0, .int .i64 0, .int .i64 0] 74 (0, 0)) (by (with_reducible repeat (first | refine QI ?_ _ | refine QL ?_ | refine QJ ?_ _)); exact BK179.out) NB179_0.out (by simp)); have n2_ := QU (KeepBut.blk hk (g' := gb195) (o := .cells #[.int .i64 (wrap64 (2 + t180)), .int .i64 (wrap64 (1 + t183)), .bool t186, .bool true, u196004, .slice none 0 0, .int .i64 (wrap64 (1 + t189)), .int .i64 (wrap64 (20 + t192))] 74 (0, 0)) (by (with_reducible repeat (first | refine QI ?_ _ | refine QL ?_ | refine QJ ?_ _)); exact BK195.out) NB195_0.out (by simp)); have n3_ := QU (Kd.R_lower (Kd.R_new' ho0 (Kd.R_lt (by (with_reducible repeat (first | apply QO | apply QP | apply QR)); exact HO_196004.out))) (keep_size (w := w) (g := g) (row := none) (by repeat (first | (with_reducible first | exact HK.out | apply KeepBut.set_ | apply QE | apply QH | apply QF | refine QS ?_ GW179.out _ | refine QS ?_ GW195.out _) | exact HK.out)))); have n4_ := QU (KeepBut.trans (by repeat (first | (with_reducible first | exact HK.out | apply KeepBut.set_ | apply QE | apply QH | apply QF | refine QS ?_ GW179.out _ | refine QS ?_ GW195.out _) | exact HK.out)) hk (.inl rfl)); have n5_ := QU (hb); have n6_ := QU (hi); clear HO_196004; clear BK179; clear BK195; clear HK; clear HB; clear HI0; have HO_196004 := n0_; have BK179 := n1_; have BK195 := n2_; have HO209 := n3_; have HK := n4_; have HB := n5_; have HI0 := n6_; clear n0_ n1_ n2_ n3_ n4_ n5_ n6_; (try clear hb); (try clear hb2); (try clear hk); (try clear hi); (try clear ho0); obtain ⟨Ao32, co32, eo32⟩ := Kd.R_slice HO209.out; subst eo32; have hnb33 := NB195_179.out; have hnc33 := NB179_195.out; have hnb34 := NB195_0.out; have hnc34 := NB0_195.out; have hcz35_0 : w31.cell? ⟨gb195, 0, none⟩ = some (.int .i64 (wrap64 (2 + t180))) := (QN BK195.out 0).trans rfl; have hcz35_1 : w31.cell? ⟨gb195, 1, none⟩ = some (.int .i64 (wrap64 (1 + t183))) := (QN BK195.out 1).trans rfl; have hcz35_2 : w31.cell? ⟨gb195, 2, none⟩ = some (.bool t186) := (QN BK195.out 2).trans rfl; have hcz35_3 : w31.cell? ⟨gb195, 3, none⟩ = some (.bool true) := (QN BK195.out 3).trans rfl; have hcz35_4 : w31.cell? ⟨gb195, 4, none⟩ = some (u196004) := (QN BK195.out 4).trans rfl; have hcz35_5 : w31.cell? ⟨gb195, 5, none⟩ = some (.slice none 0 0) := (QN BK195.out 5).trans rfl; have hcz35_6 : w31.cell? ⟨gb195, 6, none⟩ = some (.int .i64 (wrap64 (1 + t189))) := (QN BK195.out 6).trans rfl; have hcz35_7 : w31.cell? ⟨gb195, 7, none⟩ = some (.int .i64 (wrap64 (20 + t192))) := (QN BK195.out 7).trans rfl; have hfz35_0 := QK BK195.out 0; have hfz35_1 := QK BK195.out 1; have hfz35_2 := QK BK195.out 2; have hfz35_3 := QK BK195.out 3; have hfz35_4 := QK BK195.out 4; have hfz35_5 := QK BK195.out 5; have hfz35_6 := QK BK195.out 6; have hfz35_7 := QK BK195.out 7; have hnb36 := NB179_0.out; have hnc36 := NB0_179.out; have hcz37_0 : w31.cell? ⟨gb179, 0, none⟩ = some (.int .i64 0) := (QN BK179.out 0).trans rfl; have hcz37_1 : w31.cell? ⟨gb179, 1, none⟩ = some (.int .i64 0) := (QN BK179.out 1).trans rfl; have hcz37_2 : w31.cell? ⟨gb179, 2, none⟩ = some (.bool false) := (QN BK179.out 2).trans rfl; have hcz37_3 : w31.cell? ⟨gb179, 3, none⟩ = some (.bool false) := (QN BK179.out 3).trans rfl; have hcz37_4 : w31.cell? ⟨gb179, 4, none⟩ = some (.slice none 0 0) := (QN BK179.out 4).trans rfl; have hcz37_5 : w31.cell? ⟨gb179, 5, none⟩ = some (.slice none 0 0) := (QN BK179.out 5).trans rfl; have hcz37_6 : w31.cell? ⟨gb179, 6, none⟩ = some (.int .i64 0) := (QN BK179.out 6).trans rfl; have hcz37_7 : w31.cell? ⟨gb179, 7, none⟩ = some (.int .i64 0) := (QN BK179.out 7).trans rfl; have hfz37_0 := QK BK179.out 0; have hfz37_1 := QK BK179.out 1; have hfz37_2 := QK BK179.out 2; have hfz37_3 := QK BK179.out 3; have hfz37_4 := QK BK179.out 4; have hfz37_5 := QK BK179.out 5; have hfz37_6 := QK BK179.out 6; have hfz37_7 := QK BK179.out 7; obtain ⟨Ao38, co38, eo38⟩ := Kd.R_slice HO_196004.out; subst eo38))
        refine bodyPost_ret (results_cell_row rfl _ _ gb179 74 #[.int .i64 (wrap64 (2 + t180)), .int .i64 (wrap64 (1 + t183)), .bool t186, .bool true, .slice Ao38 x196004_7.length co38, .slice Ao32 t207.length co32, .int .i64 (wrap64 (1 + t189)), .int .i64 (wrap64 (20 + t192))] (0, 0) _ rfl (by (with_reducible repeat (first | refine QI ?_ _ | refine QL ?_ | refine QJ ?_ _)); refine blk_put (cs := #[.int .i64 (wrap64 (2 + t180)), .int .i64 (wrap64 (1 + t183)), .bool t186, .bool true, .slice Ao38 x196004_7.length co38, .slice Ao32 t207.length co32, .int .i64 (wrap64 (1 + t189)), .int .i64 0]) ?_ 7 _ rfl; (with_reducible repeat (first | refine QI ?_ _ | refine QL ?_ | refine QJ ?_ _)); refine blk_put (cs := #[.int .i64 (wrap64 (2 + t180)), .int .i64 (wrap64 (1 + t183)), .bool t186, .bool true, .slice Ao38 x196004_7.length co38, .slice Ao32 t207.length co32, .int .i64 0, .int .i64 0]) ?_ 6 _ rfl; (with_reducible repeat (first | refine QI ?_ _ | refine QL ?_ | refine QJ ?_ _)); refine blk_put (cs := #[.int .i64 (wrap64 (2 + t180)), .int .i64 (wrap64 (1 + t183)), .bool t186, .bool true, .slice Ao38 x196004_7.length co38, .slice none 0 0, .int .i64 0, .int .i64 0]) ?_ 5 _ rfl; (with_reducible repeat (first | refine QI ?_ _ | refine QL ?_ | refine QJ ?_ _)); refine blk_put (cs := #[.int .i64 (wrap64 (2 + t180)), .int .i64 (wrap64 (1 + t183)), .bool t186, .bool true, .slice none 0 0, .slice none 0 0, .int .i64 0, .int .i64 0]) ?_ 4 _ rfl; (with_reducible repeat (first | refine QI ?_ _ | refine QL ?_ | refine QJ ?_ _)); refine blk_put (cs := #[.int .i64 (wrap64 (2 + t180)), .int .i64 (wrap64 (1 + t183)), .bool t186, .bool false, .slice none 0 0, .slice none 0 0, .int .i64 0, .int .i64 0]) ?_ 3 _ rfl; (with_reducible repeat (first | refine QI ?_ _ | refine QL ?_ | refine QJ ?_ _)); refine blk_put (cs := #[.int .i64 (wrap64 (2 + t180)), .int .i64 (wrap64 (1 + t183)), .bool false, .bool false, .slice none 0 0, .slice none 0 0, .int .i64 0, .int .i64 0]) ?_ 2 _ rfl; (with_reducible repeat (first | refine QI ?_ _ | refine QL ?_ | refine QJ ?_ _)); refine blk_put (cs := #[.int .i64 (wrap64 (2 + t180)), .int .i64 0, .bool false, .bool false, .slice none 0 0, .slice none 0 0, .int .i64 0, .int .i64 0]) ?_ 1 _ rfl; (with_reducible repeat (first | refine QI ?_ _ | refine QL ?_ | refine QJ ?_ _)); refine blk_put (cs := #[.int .i64 0, .int .i64 0, .bool false, .bool false, .slice none 0 0, .slice none 0 0, .int .i64 0, .int .i64 0]) ?_ 0 _ rfl; (with_reducible repeat (first | refine QI ?_ _ | refine QL ?_ | refine QJ ?_ _)); refine blk_far ?_ NB179_195.out _; (with_reducible repeat (first | refine QI ?_ _ | refine QL ?_ | refine QJ ?_ _)); exact BK179.out) Try.underlying74 rfl (by kernel_rfl)) rfl ?_
        exact ⟨_, _, by first | rfl | (simp [errW_none, errW_some] <;> rfl) | (simp [*, errW_none, errW_some] <;> rfl), by (with_reducible repeat (first | apply QO | apply QP | apply QR)); exact QT (far_r (far_r (far_r (far_r (far_r (far_r (far_r (far_r (Kd.R_far (p := ⟨gb195, 5, none⟩) (Kd.R_types (Kd.R_types HO_196004.out BK195.out (by decide)) BK179.out (by decide)) (fun _ hk => hk.1.2) (.slice Ao32 t207.length co32)))))))))) (fun _ hk => hk.1.1.2), by (with_reducible repeat (first | apply QO | apply QP | apply QR)); exact QT (far_r (far_r (far_r (far_r (far_r (far_r (far_r (far_r (Kd.R_far (p := ⟨gb195, 5, none⟩) (Kd.R_types (Kd.R_types HO209.out BK195.out (by decide)) BK179.out (by decide)) (fun _ hk => hk.1.2) (.slice Ao32 t207.length co32)))))))))) (fun _ hk => hk.1.1.2), by repeat (first | (with_reducible first | exact HI0.out | apply IsS123.alloc | apply IsS123.drewN | apply IsS123.drew | apply IsS123.set_1 | apply IsS123.set_2 | refine IsS123.far ?_ NB0_179.out _ | refine IsS123.far ?_ NB0_195.out _) | exact HI0.out), by repeat (first | (with_reducible first | exact HB.out | apply QC | apply QB | apply QD | refine QG ?_ (IsS123.ge HI0.out) | refine QG ?_ GE179.out | refine QG ?_ GE195.out) | exact HB.out), by repeat (first | (with_reducible first | exact HK.out | apply KeepBut.set_ | apply QE | apply QH | apply QF | refine QS ?_ GW179.out _ | refine QS ?_ GW195.out _) | exact HK.out)⟩
      · replace c28 := Bool.eq_false_iff.mpr c28
        subst c28
        have H1 : (some ((wrap64 (2 + t180)), (wrap64 (1 + t183)), t186, true, x196004_7, ([] : List Int), (wrap64 (1 + t189)), (wrap64 (20 + t192)), t205, t206)) = some (r1, r2, r3, r4, r5, r6, r7, r8, r9, r10) := by rw [if_neg (show ¬ (false = true) by decide)] at H; exact H
        clear H
        have H := H1
        clear H1
        simp only [Option.some.injEq, Prod.mk.injEq] at H
        obtain ⟨rfl, rfl, rfl, rfl, rfl, rfl, rfl, rfl, rfl, rfl⟩ := H
        go_wp2_with (first | ((with_reducible refine QM (f := 128) rfl ?_); refine goesL_ (some 25) rfl rfl Try.func128 (by kernel_rfl) rfl #[.pointer (some ⟨g, 0, none⟩), .int .i64 2] rfl (by (try simp only [List.map_toArray, List.map_cons, List.map_nil]); first | done | rfl | (simp only [List.length_drop, List.length_take]; rfl)) ?_; (with_reducible refine (spec_l1Once.calls g s0_0 x1001_7 x1002_7 2 false t205 t206 w0 _ ?side1 ?side2 A27.out).mono ?_); (case side1 => repeat (first | (with_reducible first | exact HI0.out | apply IsS123.alloc | apply IsS123.drewN | apply IsS123.drew | apply IsS123.set_1 | apply IsS123.set_2 | refine IsS123.far ?_ NB0_179.out _ | refine IsS123.far ?_ NB0_195.out _) | exact HI0.out)); (case side2 => repeat (first | (with_reducible first | exact HB.out | apply QC | apply QB | apply QD | refine QG ?_ (IsS123.ge HI0.out) | refine QG ?_ GE179.out | refine QG ?_ GE195.out) | exact HB.out)); rintro e w39 ⟨rfl, hi, hb, hk⟩; refine ⟨_, rfl, ?_⟩; have n0_ := QU (QT (Kd.R_keep (IsS123.apart (show IsS123 w0 _ g s0_0 x1001_7 x1002_7 from by repeat (first | (with_reducible first | exact HI0.out | apply IsS123.alloc | apply IsS123.drewN | apply IsS123.drew | apply IsS123.set_1 | apply IsS123.set_2 | refine IsS123.far ?_ NB0_179.out _ | refine IsS123.far ?_ NB0_195.out _) | exact HI0.out)) (by (with_reducible repeat (first | apply QO | apply QP | apply QR)); exact HO_196004.out) (by decide)) hk (fun _ h => h.2)) (fun _ h => h.1)); have n1_ := QU (KeepBut.blk hk (g' := gb179) (o := .cells #[.int .i64 0, .int .i64 0, .bool false, .bool false, .slice none 0 0, .slice none 0 0, .int .i64 0, .int .i64 0] 74 (0, 0)) (by (with_reducible repeat (first | refine QI ?_ _ | refine QL ?_ | refine QJ ?_ _)); exact BK179.out) NB179_0.out (by simp)); have n2_ := QU (KeepBut.blk hk (g' := gb195) (o := .cells #[.int .i64 (wrap64 (2 + t180)), .int .i64 (wrap64 (1 + t183)), .bool t186, .bool true, u196004, .slice none 0 0, .int .i64 (wrap64 (1 + t189)), .int .i64 (wrap64 (20 + t192))] 74 (0, 0)) (by (with_reducible repeat (first | refine QI ?_ _ | refine QL ?_ | refine QJ ?_ _)); exact BK195.out) NB195_0.out (by simp)); have n3_ := QU (KeepBut.trans (by repeat (first | (with_reducible first | exact HK.out | apply KeepBut.set_ | apply QE | apply QH | apply QF | refine QS ?_ GW179.out _ | refine QS ?_ GW195.out _) | exact HK.out)) hk (.inl rfl)); have n4_ := QU (hb); have n5_ := QU (hi); clear HO_196004; clear BK179; clear BK195; clear HK; clear HB; clear HI0; have HO_196004 := n0_; have BK179 := n1_; have BK195 := n2_; have HK := n3_; have HB := n4_; have HI0 := n5_; clear n0_ n1_ n2_ n3_ n4_ n5_; (try clear hb); (try clear hb2); (try clear hk); (try clear hi); have hnb40 := NB195_179.out; have hnc40 := NB179_195.out; have hnb41 := NB195_0.out; have hnc41 := NB0_195.out; have hcz42_0 : w39.cell? ⟨gb195, 0, none⟩ = some (.int .i64 (wrap64 (2 + t180))) := (QN BK195.out 0).trans rfl; have hcz42_1 : w39.cell? ⟨gb195, 1, none⟩ = some (.int .i64 (wrap64 (1 + t183))) := (QN BK195.out 1).trans rfl; have hcz42_2 : w39.cell? ⟨gb195, 2, none⟩ = some (.bool t186) := (QN BK195.out 2).trans rfl; have hcz42_3 : w39.cell? ⟨gb195, 3, none⟩ = some (.bool true) := (QN BK195.out 3).trans rfl; have hcz42_4 : w39.cell? ⟨gb195, 4, none⟩ = some (u196004) := (QN BK195.out 4).trans rfl; have hcz42_5 : w39.cell? ⟨gb195, 5, none⟩ = some (.slice none 0 0) := (QN BK195.out 5).trans rfl; have hcz42_6 : w39.cell? ⟨gb195, 6, none⟩ = some (.int .i64 (wrap64 (1 + t189))) := (QN BK195.out 6).trans rfl; have hcz42_7 : w39.cell? ⟨gb195, 7, none⟩ = some (.int .i64 (wrap64 (20 + t192))) := (QN BK195.out 7).trans rfl; have hfz42_0 := QK BK195.out 0; have hfz42_1 := QK BK195.out 1; have hfz42_2 := QK BK195.out 2; have hfz42_3 := QK BK195.out 3; have hfz42_4 := QK BK195.out 4; have hfz42_5 := QK BK195.out 5; have hfz42_6 := QK BK195.out 6; have hfz42_7 := QK BK195.out 7; have hnb43 := NB179_0.out; have hnc43 := NB0_179.out; have hcz44_0 : w39.cell? ⟨gb179, 0, none⟩ = some (.int .i64 0) := (QN BK179.out 0).trans rfl; have hcz44_1 : w39.cell? ⟨gb179, 1, none⟩ = some (.int .i64 0) := (QN BK179.out 1).trans rfl; have hcz44_2 : w39.cell? ⟨gb179, 2, none⟩ = some (.bool false) := (QN BK179.out 2).trans rfl; have hcz44_3 : w39.cell? ⟨gb179, 3, none⟩ = some (.bool false) := (QN BK179.out 3).trans rfl; have hcz44_4 : w39.cell? ⟨gb179, 4, none⟩ = some (.slice none 0 0) := (QN BK179.out 4).trans rfl; have hcz44_5 : w39.cell? ⟨gb179, 5, none⟩ = some (.slice none 0 0) := (QN BK179.out 5).trans rfl; have hcz44_6 : w39.cell? ⟨gb179, 6, none⟩ = some (.int .i64 0) := (QN BK179.out 6).trans rfl; have hcz44_7 : w39.cell? ⟨gb179, 7, none⟩ = some (.int .i64 0) := (QN BK179.out 7).trans rfl; have hfz44_0 := QK BK179.out 0; have hfz44_1 := QK BK179.out 1; have hfz44_2 := QK BK179.out 2; have hfz44_3 := QK BK179.out 3; have hfz44_4 := QK BK179.out 4; have hfz44_5 := QK BK179.out 5; have hfz44_6 := QK BK179.out 6; have hfz44_7 := QK BK179.out 7; obtain ⟨Ao45, co45, eo45⟩ := Kd.R_slice HO_196004.out; subst eo45))
        refine bodyPost_ret (results_cell_row rfl _ _ gb179 74 #[.int .i64 (wrap64 (2 + t180)), .int .i64 (wrap64 (1 + t183)), .bool t186, .bool true, .slice Ao45 x196004_7.length co45, .slice none 0 0, .int .i64 (wrap64 (1 + t189)), .int .i64 (wrap64 (20 + t192))] (0, 0) _ rfl (by (with_reducible repeat (first | refine QI ?_ _ | refine QL ?_ | refine QJ ?_ _)); refine blk_put (cs := #[.int .i64 (wrap64 (2 + t180)), .int .i64 (wrap64 (1 + t183)), .bool t186, .bool true, .slice Ao45 x196004_7.length co45, .slice none 0 0, .int .i64 (wrap64 (1 + t189)), .int .i64 0]) ?_ 7 _ rfl; (with_reducible repeat (first | refine QI ?_ _ | refine QL ?_ | refine QJ ?_ _)); refine blk_put (cs := #[.int .i64 (wrap64 (2 + t180)), .int .i64 (wrap64 (1 + t183)), .bool t186, .bool true, .slice Ao45 x196004_7.length co45, .slice none 0 0, .int .i64 0, .int .i64 0]) ?_ 6 _ rfl; (with_reducible repeat (first | refine QI ?_ _ | refine QL ?_ | refine QJ ?_ _)); refine blk_put (cs := #[.int .i64 (wrap64 (2 + t180)), .int .i64 (wrap64 (1 + t183)), .bool t186, .bool true, .slice Ao45 x196004_7.length co45, .slice none 0 0, .int .i64 0, .int .i64 0]) ?_ 5 _ rfl; (with_reducible repeat (first | refine QI ?_ _ | refine QL ?_ | refine QJ ?_ _)); refine blk_put (cs := #[.int .i64 (wrap64 (2 + t180)), .int .i64 (wrap64 (1 + t183)), .bool t186, .bool true, .slice none 0 0, .slice none 0 0, .int .i64 0, .int .i64 0]) ?_ 4 _ rfl; (with_reducible repeat (first | refine QI ?_ _ | refine QL ?_ | refine QJ ?_ _)); refine blk_put (cs := #[.int .i64 (wrap64 (2 + t180)), .int .i64 (wrap64 (1 + t183)), .bool t186, .bool false, .slice none 0 0, .slice none 0 0, .int .i64 0, .int .i64 0]) ?_ 3 _ rfl; (with_reducible repeat (first | refine QI ?_ _ | refine QL ?_ | refine QJ ?_ _)); refine blk_put (cs := #[.int .i64 (wrap64 (2 + t180)), .int .i64 (wrap64 (1 + t183)), .bool false, .bool false, .slice none 0 0, .slice none 0 0, .int .i64 0, .int .i64 0]) ?_ 2 _ rfl; (with_reducible repeat (first | refine QI ?_ _ | refine QL ?_ | refine QJ ?_ _)); refine blk_put (cs := #[.int .i64 (wrap64 (2 + t180)), .int .i64 0, .bool false, .bool false, .slice none 0 0, .slice none 0 0, .int .i64 0, .int .i64 0]) ?_ 1 _ rfl; (with_reducible repeat (first | refine QI ?_ _ | refine QL ?_ | refine QJ ?_ _)); refine blk_put (cs := #[.int .i64 0, .int .i64 0, .bool false, .bool false, .slice none 0 0, .slice none 0 0, .int .i64 0, .int .i64 0]) ?_ 0 _ rfl; (with_reducible repeat (first | refine QI ?_ _ | refine QL ?_ | refine QJ ?_ _)); exact BK179.out) Try.underlying74 rfl (by kernel_rfl)) rfl ?_
        exact ⟨_, _, by first | rfl | (simp [errW_none, errW_some] <;> rfl) | (simp [*, errW_none, errW_some] <;> rfl), by (with_reducible repeat (first | apply QO | apply QP | apply QR)); exact QT (far_r (far_r (far_r (far_r (far_r (far_r (far_r (far_r (Kd.R_types HO_196004.out BK179.out (by decide)))))))))) (fun _ hk => (by simp [Value.ownBlock])), by first | exact Kd.R_nil _ _ _ _ _ | exact Kd.N_nil _ _ _ _ _ | exact Kd.V_nil _ _ _ _ _ | exact Kd.Q_nil _ _ _ _ _ | exact Kd.S_nil _ _ _ _ _, by repeat (first | (with_reducible first | exact HI0.out | apply IsS123.alloc | apply IsS123.drewN | apply IsS123.drew | apply IsS123.set_1 | apply IsS123.set_2 | refine IsS123.far ?_ NB0_179.out _ | refine IsS123.far ?_ NB0_195.out _) | exact HI0.out), by repeat (first | (with_reducible first | exact HB.out | apply QC | apply QB | apply QD | refine QG ?_ (IsS123.ge HI0.out) | refine QG ?_ GE179.out | refine QG ?_ GE195.out) | exact HB.out), by repeat (first | (with_reducible first | exact HK.out | apply KeepBut.set_ | apply QE | apply QH | apply QF | refine QS ?_ GW179.out _ | refine QS ?_ GW195.out _) | exact HK.out)⟩

/-! ### spec_l8Any: function 149 -/
def spec_l8Any.f (k : Nat) (s0_0 : List Int) (s0_1 : Int) (s0_2 : Int) : Option (List Int × Int × Int) := (spec_l8Draw.f k s0_0 s0_1 s0_2 2).bind fun bt212 => ((spec_l1Below.f s0_0 bt212.2.1 bt212.2.2 10).bind fun bt217 => (if bt217.1 = 0 then ((spec_l1Below.f s0_0 bt217.2.1 bt217.2.2 (bt212.1.length : Int)).bind fun bt220 => ((spec_l1Int.f s0_0 bt220.2.1 bt220.2.2 (([104, 99, 213, 313, 401, (-4), (-2), 9223372036854775807] : List Int))).bind fun bt226 => (if 0 ≤ bt220.1 then (if bt220.1 < (bt212.1.length : Int) then (some ((bt212.1.set (bt220.1 : Int).toNat bt226.1), bt226.2.1, bt226.2.2)) else (none)) else (none)))) else (if bt217.1 = 1 then (if 1 ≤ (bt212.1.length : Int) then (some ((bt212.1.drop (1 : Int).toNat), bt217.2.1, bt217.2.2)) else (none)) else (some (bt212.1, bt217.2.1, bt217.2.2)))))
theorem spec_l8Any.mono : ∀ a0 a1 a2 k, LeO (spec_l8Any.f k a0 a1 a2) (spec_l8Any.f (k + 1) a0 a1 a2) := by
  intro a0 a1 a2 k
  unfold spec_l8Any.f
  repeat' first
      | (with_reducible exact spec_l8Draw.mono _ _ _ _ _)
      | (with_reducible exact LeO.refl _)
      | (with_reducible exact LeO.none _)
      | (with_reducible refine LeO.ite ?_ ?_)
      | (with_reducible refine LeO.bind ?_ (fun _ => ?_))
      | exact spec_l8Draw.mono _ _ _ _ _
      | exact LeO.none _
      | refine LeO.ite ?_ ?_
      | refine LeO.bind ?_ (fun _ => ?_)
set_option maxHeartbeats 8000000 in
set_option maxRecDepth 100000 in
theorem spec_l8Any.calls (k : Nat) (g : Nat) (s0_0 : List Int) (s0_1 : Int) (s0_2 : Int) (r1 : List Int) (r2 : Int) (r3 : Int) (w0 w : World) (hI : IsS123 w0 w g s0_0 s0_1 s0_2) (hB : Below w0.heap.size w0 w) (h : spec_l8Any.f k s0_0 s0_1 s0_2 = some (r1, r2, r3)) :
    Calls Try.prog 149 #[.pointer (some ⟨g, 0, none⟩)] w fun e w' => ∃ v0_ : Value, e = .returned (v0_) ∧ Kd.Q (Kd.int .i64) 3 w' w.heap.size (fun _ => True) v0_ r1 ∧ IsS123 w0 w' g s0_0 r2 r3 ∧ Below w0.heap.size w0 w' ∧ KeepBut w w' g none := by
  have HI0 := QU hI
  have HK := QU (KeepBut.refl w g none)
  have HL := QU hB.size
  clear hI
  have HW0 := QU hB.size
  have HB := QU hB
  clear hB
  have H : ((spec_l8Draw.f k s0_0 s0_1 s0_2 2).bind fun bt212 => ((spec_l1Below.f s0_0 bt212.2.1 bt212.2.2 10).bind fun bt217 => (if bt217.1 = 0 then ((spec_l1Below.f s0_0 bt217.2.1 bt217.2.2 (bt212.1.length : Int)).bind fun bt220 => ((spec_l1Int.f s0_0 bt220.2.1 bt220.2.2 (([104, 99, 213, 313, 401, (-4), (-2), 9223372036854775807] : List Int))).bind fun bt226 => (if 0 ≤ bt220.1 then (if bt220.1 < (bt212.1.length : Int) then (some ((bt212.1.set (bt220.1 : Int).toNat bt226.1), bt226.2.1, bt226.2.2)) else (none)) else (none)))) else (if bt217.1 = 1 then (if 1 ≤ (bt212.1.length : Int) then (some ((bt212.1.drop (1 : Int).toNat), bt217.2.1, bt217.2.2)) else (none)) else (some (bt212.1, bt217.2.1, bt217.2.2)))))) = some (r1, r2, r3) := h
  clear h
  replace H := QV.mp H
  obtain ⟨⟨t212, t215, t216⟩, A20, H⟩ := H
  replace H : ((spec_l1Below.f s0_0 t215 t216 10).bind fun bt217 => (if bt217.1 = 0 then ((spec_l1Below.f s0_0 bt217.2.1 bt217.2.2 (t212.length : Int)).bind fun bt220 => ((spec_l1Int.f s0_0 bt220.2.1 bt220.2.2 (([104, 99, 213, 313, 401, (-4), (-2), 9223372036854775807] : List Int))).bind fun bt226 => (if 0 ≤ bt220.1 then (if bt220.1 < (t212.length : Int) then (some ((t212.set (bt220.1 : Int).toNat bt226.1), bt226.2.1, bt226.2.2)) else (none)) else (none)))) else (if bt217.1 = 1 then (if 1 ≤ (t212.length : Int) then (some ((t212.drop (1 : Int).toNat), bt217.2.1, bt217.2.2)) else (none)) else (some (t212, bt217.2.1, bt217.2.2))))) = some (r1, r2, r3) := H
  have A2 := QU A20
  clear A20
  replace H := QV.mp H
  obtain ⟨⟨t217, t218, t219⟩, A30, H⟩ := H
  replace H : (if t217 = 0 then ((spec_l1Below.f s0_0 t218 t219 (t212.length : Int)).bind fun bt220 => ((spec_l1Int.f s0_0 bt220.2.1 bt220.2.2 (([104, 99, 213, 313, 401, (-4), (-2), 9223372036854775807] : List Int))).bind fun bt226 => (if 0 ≤ bt220.1 then (if bt220.1 < (t212.length : Int) then (some ((t212.set (bt220.1 : Int).toNat bt226.1), bt226.2.1, bt226.2.2)) else (none)) else (none)))) else (if t217 = 1 then (if 1 ≤ (t212.length : Int) then (some ((t212.drop (1 : Int).toNat), t218, t219)) else (none)) else (some (t212, t218, t219)))) = some (r1, r2, r3) := H
  have A3 := QU A30
  clear A30
  by_cases c4 : t217 = 0
  · rw [if_pos c4] at H
    have c4b0 : (t217 == 0) = true := beq_iff_eq.mpr c4
    have c4b1 : (t217 != 0) = false := bne_eq_false_iff_eq.mpr c4
    clear c4
    replace H := QV.mp H
    obtain ⟨⟨t220, t221, t222⟩, A50, H⟩ := H
    replace H : ((spec_l1Int.f s0_0 t221 t222 (([104, 99, 213, 313, 401, (-4), (-2), 9223372036854775807] : List Int))).bind fun bt226 => (if 0 ≤ t220 then (if t220 < (t212.length : Int) then (some ((t212.set (t220 : Int).toNat bt226.1), bt226.2.1, bt226.2.2)) else (none)) else (none))) = some (r1, r2, r3) := H
    have A5 := QU A50
    clear A50
    obtain ⟨y223, hy223⟩ : ∃ y_ : List Int, y_ = (([104, 99, 213, 313, 401, (-4), (-2), 9223372036854775807] : List Int)) := ⟨_, rfl⟩
    replace H : ((spec_l1Int.f s0_0 t221 t222 y223).bind fun bt226 => (if 0 ≤ t220 then (if t220 < (t212.length : Int) then (some ((t212.set (t220 : Int).toNat bt226.1), bt226.2.1, bt226.2.2)) else (none)) else (none))) = some (r1, r2, r3) := by first | (rw [hy223]; with_reducible exact H) | (have H2_ := (Option.bind_some _ _).symm.trans H; rw [hy223]; with_reducible exact H2_) | (have H2_ := (Option.bind_some _ _).symm.trans H; with_reducible exact H2_) | with_reducible exact H | (rw [hy223]; exact H) | exact H
    have Ny223 := QU hy223
    clear hy223
    replace H := QV.mp H
    obtain ⟨⟨t226, t227, t228⟩, A60, H⟩ := H
    replace H : (if 0 ≤ t220 then (if t220 < (t212.length : Int) then (some ((t212.set (t220 : Int).toNat t226), t227, t228)) else (none)) else (none)) = some (r1, r2, r3) := H
    have A6 := QU A60
    clear A60
    by_cases c7 : 0 ≤ t220
    · rw [if_pos c7] at H
      have c7b0 : decide (0 ≤ t220) = true := decide_eq_true c7
      clear c7
      by_cases c8 : t220 < (t212.length : Int)
      · rw [if_pos c8] at H
        have c8b0 : decide (t220 < (t212.length : Int)) = true := decide_eq_true c8
        clear c8
        obtain ⟨y229, hy229⟩ : ∃ y_ : List Int, y_ = (t212.set (t220 : Int).toNat t226) := ⟨_, rfl⟩
        replace H : (some (y229, t227, t228)) = some (r1, r2, r3) := by first | (rw [hy229]; with_reducible exact H) | (have H2_ := (Option.bind_some _ _).symm.trans H; rw [hy229]; with_reducible exact H2_) | (have H2_ := (Option.bind_some _ _).symm.trans H; with_reducible exact H2_) | with_reducible exact H | (rw [hy229]; exact H) | exact H
        have Ny229 := QU hy229
        clear hy229
        simp only [Option.some.injEq, Prod.mk.injEq] at H
        obtain ⟨rfl, rfl, rfl⟩ := H
        go_enter Try.func149, Try.ntmps149
        go_wp2_with (first | ((with_reducible refine QM (f := 157) rfl ?_); refine goesL_ (some 5) rfl rfl Try.func157 (by kernel_rfl) rfl #[.pointer (some ⟨g, 0, none⟩), .int .i64 2] rfl (by (try simp only [List.map_toArray, List.map_cons, List.map_nil]); first | done | rfl | (simp only [List.length_drop, List.length_take]; rfl)) ?_; (with_reducible refine (spec_l8Draw.calls k g s0_0 s0_1 s0_2 2 t212 t215 t216 w0 _ ?side1 ?side2 A2.out).mono ?_); (case side1 => repeat (first | (with_reducible first | exact HI0.out | apply IsS123.alloc | apply IsS123.drewN | apply IsS123.drew | apply IsS123.set_1 | apply IsS123.set_2) | exact HI0.out)); (case side2 => repeat (first | (with_reducible first | exact HB.out | apply QC | apply QB | apply QD | refine QG ?_ (IsS123.ge HI0.out)) | exact HB.out)); rintro e w10 ⟨v213, rfl, ho0, hi, hb, hk⟩; refine ⟨_, rfl, ?_⟩; have n0_ := QU (Kd.R_lower ho0 (keep_size (w := w) (g := g) (row := none) (by repeat (first | (with_reducible first | exact HK.out | apply KeepBut.set_ | apply QE | apply QH | apply QF) | exact HK.out)))); have n1_ := QU (KeepBut.trans (by repeat (first | (with_reducible first | exact HK.out | apply KeepBut.set_ | apply QE | apply QH | apply QF) | exact HK.out)) hk (.inl rfl)); have n2_ := QU (hb); have n3_ := QU (hi); clear HK; clear HB; clear HI0; have HO214 := n0_; have HK := n1_; have HB := n2_; have HI0 := n3_; clear n0_ n1_ n2_ n3_; (try clear hb); (try clear hb2); (try clear hk); (try clear hi); (try clear ho0)) | ((with_reducible refine QM (f := 140) rfl ?_); refine goesL_ (some 7) rfl rfl Try.func140 (by kernel_rfl) rfl #[.pointer (some ⟨g, 0, none⟩), .int .i64 10] rfl (by (try simp only [List.map_toArray, List.map_cons, List.map_nil]); first | done | rfl | (simp only [List.length_drop, List.length_take]; rfl)) ?_; (with_reducible refine (spec_l1Below.calls g s0_0 t215 t216 10 t217 t218 t219 w0 _ ?side1 ?side2 A3.out).mono ?_); (case side1 => repeat (first | (with_reducible first | exact HI0.out | apply IsS123.alloc | apply IsS123.drewN | apply IsS123.drew | apply IsS123.set_1 | apply IsS123.set_2) | exact HI0.out)); (case side2 => repeat (first | (with_reducible first | exact HB.out | apply QC | apply QB | apply QD | refine QG ?_ (IsS123.ge HI0.out)) | exact HB.out)); rintro e w11 ⟨rfl, hi, hb, hk⟩; refine ⟨_, rfl, ?_⟩; have n0_ := QU (QT (Kd.R_keep (IsS123.apart (show IsS123 w0 _ g s0_0 t215 t216 from by repeat (first | (with_reducible first | exact HI0.out | apply IsS123.alloc | apply IsS123.drewN | apply IsS123.drew | apply IsS123.set_1 | apply IsS123.set_2) | exact HI0.out)) (by (with_reducible repeat (first | apply QO | apply QP | apply QR)); exact HO214.out) (by decide)) hk (fun _ h => h.2)) (fun _ h => h.1)); have n1_ := QU (KeepBut.trans (by repeat (first | (with_reducible first | exact HK.out | apply KeepBut.set_ | apply QE | apply QH | apply QF) | exact HK.out)) hk (.inl rfl)); have n2_ := QU (hb); have n3_ := QU (hi); clear HO214; clear HK; clear HB; clear HI0; have HO214 := n0_; have HK := n1_; have HB := n2_; have HI0 := n3_; clear n0_ n1_ n2_ n3_; (try clear hb); (try clear hb2); (try clear hk); (try clear hi); obtain ⟨Ao12, co12, eo12⟩ := Kd.R_slice HO214.out; subst eo12) | ((with_reducible refine QM (f := 140) rfl ?_); refine goesL_ (some 14) rfl rfl Try.func140 (by kernel_rfl) rfl #[.pointer (some ⟨g, 0, none⟩), .int .i64 (t212.length : Int)] rfl (by (try simp only [List.map_toArray, List.map_cons, List.map_nil]); first | done | rfl | (simp only [List.length_drop, List.length_take]; rfl)) ?_; (with_reducible refine (spec_l1Below.calls g s0_0 t218 t219 (t212.length : Int) t220 t221 t222 w0 _ ?side1 ?side2 A5.out).mono ?_); (case side1 => repeat (first | (with_reducible first | exact HI0.out | apply IsS123.alloc | apply IsS123.drewN | apply IsS123.drew | apply IsS123.set_1 | apply IsS123.set_2) | exact HI0.out)); (case side2 => repeat (first | (with_reducible first | exact HB.out | apply QC | apply QB | apply QD | refine QG ?_ (IsS123.ge HI0.out)) | exact HB.out)); rintro e w13 ⟨rfl, hi, hb, hk⟩; refine ⟨_, rfl, ?_⟩; have n0_ := QU (QT (Kd.R_keep (IsS123.apart (show IsS123 w0 _ g s0_0 t218 t219 from by repeat (first | (with_reducible first | exact HI0.out | apply IsS123.alloc | apply IsS123.drewN | apply IsS123.drew | apply IsS123.set_1 | apply IsS123.set_2) | exact HI0.out)) (by (with_reducible repeat (first | apply QO | apply QP | apply QR)); exact HO214.out) (by decide)) hk (fun _ h => h.2)) (fun _ h => h.1)); have n1_ := QU (KeepBut.trans (by repeat (first | (with_reducible first | exact HK.out | apply KeepBut.set_ | apply QE | apply QH | apply QF) | exact HK.out)) hk (.inl rfl)); have n2_ := QU (hb); have n3_ := QU (hi); clear HO214; clear HK; clear HB; clear HI0; have HO214 := n0_; have HK := n1_; have HB := n2_; have HI0 := n3_; clear n0_ n1_ n2_ n3_; (try clear hb); (try clear hb2); (try clear hk); (try clear hi)) | ((with_reducible refine gate_dst (N := 16) rfl ?_); refine Kd.R_lit (Kd.int .i64) _ 3 ?hg (N := 16) ?hd (xs := ([104, 99, 213, 313, 401, (-4), (-2), 9223372036854775807] : List Int)) (inner := [.int .i64 104, .int .i64 99, .int .i64 213, .int .i64 313, .int .i64 401, .int .i64 (-4), .int .i64 (-2), .int .i64 9223372036854775807]) (ok := fun _ => True) (okp := fun _ => True) ?hr ?hp (fun _ hk => hk) trivial (Below.refl _ _) (Nat.le_refl _) (by simp) ?_; (case hd => rfl); (case hg => rfl); (case hr => first | (go_simp; done) | (go_simp; rfl)); (case hp => exact (Reps.one (show Kd.M (Kd.int .i64) _ _ _ 104 [.int .i64 104] from rfl) (Reps.one (show Kd.M (Kd.int .i64) _ _ _ 99 [.int .i64 99] from rfl) (Reps.one (show Kd.M (Kd.int .i64) _ _ _ 213 [.int .i64 213] from rfl) (Reps.one (show Kd.M (Kd.int .i64) _ _ _ 313 [.int .i64 313] from rfl) (Reps.one (show Kd.M (Kd.int .i64) _ _ _ 401 [.int .i64 401] from rfl) (Reps.one (show Kd.M (Kd.int .i64) _ _ _ (-4) [.int .i64 (-4)] from rfl) (Reps.one (show Kd.M (Kd.int .i64) _ _ _ (-2) [.int .i64 (-2)] from rfl) (Reps.one (show Kd.M (Kd.int .i64) _ _ _ 9223372036854775807 [.int .i64 9223372036854775807] from rfl) (Reps.none _ _)))))))))); intro v224 w14 ho15 hb hg_ hnew_; clear hg_ hnew_; (first | rw [← Ny223.out] at ho15 | (simp only [Int.reduceToNat] at ho15; rw [← Ny223.out] at ho15)); have n0_ := QU (Kd.R_elder' (by (with_reducible repeat (first | apply QO | apply QP | apply QR)); exact HO214.out) (Kd.R_base ho15) hb); have n1_ := QU (Kd.R_lower (Kd.R_new' ho15 (Kd.R_lt (by (with_reducible repeat (first | apply QO | apply QP | apply QR)); exact HO214.out))) (keep_size (w := w) (g := g) (row := none) (by repeat (first | (with_reducible first | exact HK.out | apply KeepBut.set_ | apply QE | apply QH | apply QF) | exact HK.out)))); have n2_ := QU (IsS123.below (by repeat (first | (with_reducible first | exact HI0.out | apply IsS123.alloc | apply IsS123.drewN | apply IsS123.drew | apply IsS123.set_1 | apply IsS123.set_2) | exact HI0.out)) hb); have n3_ := QU (KeepBut.trans (by repeat (first | (with_reducible first | exact HK.out | apply KeepBut.set_ | apply QE | apply QH | apply QF) | exact HK.out)) (KeepBut.of_below hb g none) (.inl rfl)); have n4_ := QU (below_step (by repeat (first | (with_reducible first | exact HB.out | apply QC | apply QB | apply QD | refine QG ?_ (IsS123.ge HI0.out)) | exact HB.out)) hb); clear HO214; clear HI0; clear HK; clear HB; have HO214 := n0_; have HO225 := n1_; have HI0 := n2_; have HK := n3_; have HB := n4_; clear n0_ n1_ n2_ n3_ n4_; clear hb ho15; obtain ⟨Ao16, co16, eo16⟩ := Kd.R_slice HO225.out; subst eo16) | ((with_reducible refine QM (f := 148) rfl ?_); refine goesL_ (some 17) rfl rfl Try.func148 (by kernel_rfl) rfl #[.pointer (some ⟨g, 0, none⟩), .slice Ao16 y223.length co16] rfl (by (try simp only [List.map_toArray, List.map_cons, List.map_nil]); first | done | rfl | (simp only [List.length_drop, List.length_take]; rfl)) ?_; (with_reducible refine (spec_l1Int.calls g s0_0 t221 t222 _ _ y223 t226 t227 t228 w0 _ ?side1 ?side2 ?side3 ?side4 ?side5 A6.out).mono ?_); (case side1 => repeat (first | (with_reducible first | exact HI0.out | apply IsS123.alloc | apply IsS123.drewN | apply IsS123.drew | apply IsS123.set_1 | apply IsS123.set_2) | exact HI0.out)); (case side2 => repeat (first | (with_reducible first | exact HB.out | apply QC | apply QB | apply QD | refine QG ?_ (IsS123.ge HI0.out)) | exact HB.out)); (case side3 => repeat (first | exact (Kd.R_reads' HO225.out).2.2 | (with_reducible refine Kd.C_alloc ?_ _) | (with_reducible refine Kd.C_drewN ?_ _) | (with_reducible refine Kd.C_drew ?_))); (case side4 => exact (Kd.R_reads' HO225.out).2.1); (case side5 => exact far_slice (IsS123.own_ne HI0.out HO225.out (by decide))); rintro e w17 ⟨rfl, hi, hb, hk⟩; refine ⟨_, rfl, ?_⟩; have n0_ := QU (QT (Kd.R_keep (IsS123.apart (show IsS123 w0 _ g s0_0 t221 t222 from by repeat (first | (with_reducible first | exact HI0.out | apply IsS123.alloc | apply IsS123.drewN | apply IsS123.drew | apply IsS123.set_1 | apply IsS123.set_2) | exact HI0.out)) (by (with_reducible repeat (first | apply QO | apply QP | apply QR)); exact HO214.out) (by decide)) hk (fun _ h => h.2)) (fun _ h => h.1)); have n1_ := QU (QT (Kd.R_keep (IsS123.apart (show IsS123 w0 _ g s0_0 t221 t222 from by repeat (first | (with_reducible first | exact HI0.out | apply IsS123.alloc | apply IsS123.drewN | apply IsS123.drew | apply IsS123.set_1 | apply IsS123.set_2) | exact HI0.out)) (by (with_reducible repeat (first | apply QO | apply QP | apply QR)); exact HO225.out) (by decide)) hk (fun _ h => h.2)) (fun _ h => h.1)); have n2_ := QU (KeepBut.trans (by repeat (first | (with_reducible first | exact HK.out | apply KeepBut.set_ | apply QE | apply QH | apply QF) | exact HK.out)) hk (.inl rfl)); have n3_ := QU (hb); have n4_ := QU (hi); clear HO214; clear HO225; clear HK; clear HB; clear HI0; have HO214 := n0_; have HO225 := n1_; have HK := n2_; have HB := n3_; have HI0 := n4_; clear n0_ n1_ n2_ n3_ n4_; (try clear hb); (try clear hb2); (try clear hk); (try clear hi); have p9 : 0 ≤ (t220 : Int) := of_decide_eq_true (by first | (with_reducible assumption) | assumption); have q9 : (t220 : Int) < ((t212.length : Int) : Int) := of_decide_eq_true (by first | (with_reducible assumption) | assumption); obtain ⟨go9, co9, eo9, gb9, gl9, cl9, HG9⟩ := Kd.R_form HO214.out (by omega); (first | cases eo9 | (injection eo9 with ea_ en_ ec_; (first | subst ea_ | (injection ea_ with ea_; subst ea_)); subst ec_; clear en_)); have GB9 := QU gb9; have GG9 := QU HG9; clear gb9 gl9 HG9; obtain ⟨hx9_0, hf9_0⟩ := Kd.R_celln 0 HO214.out (t220 : Int) p9 q9; replace p9 := eq_true p9; replace q9 := eq_true q9; have n_ := QU (QT (ok' := (fun k_ => some k_ ≠ (.slice Ao16 y223.length co16 : Value).ownBlock)) HO214.out (by first | exact fun k_ hk => hk.2 | exact fun k_ hk => hk)); clear HO214; have HO214 := n_; clear n_; obtain ⟨hy18_, hz18_⟩ := Kd.R_celln 0 HO214.out (t220 : Int) (of_decide_eq_true (by first | (with_reducible assumption) | assumption)) (of_decide_eq_true (by first | (with_reducible assumption) | assumption)); have HP18 := Kd.R_putg HO214.out (t220 : Int) t226) | ((with_reducible refine gate_store (t := 3) (p := 18) rfl ?_); refine store_event (t := 3) (p := 18) (v := ?vo_w19) (w1 := (w17.setCell ⟨go9, (t220 : Int).toNat, none⟩ (.int .i64 t226))) ?hg ?ho ?hn ?hr ?_; (case ho => rfl); (case hg => rfl); (case hn => rfl); (case hr => first | (go_simp; done) | (go_simp; rfl)); intro w19 hw; have hg : w17.grownBy w19 (some go9) := (by rw [hw]; exact HP18.2); have hp_ : Kd.R (Kd.int .i64) 3 w19 w.heap.size (fun k_ => some k_ ≠ (.slice Ao16 y223.length co16 : Value).ownBlock) (.slice (some ⟨go9, 0, none⟩) t212.length co12) y229 := (by rw [hw, Ny229.out]; exact HP18.1); clear HP18; have n0_ := QU (IsS123.grown (by repeat (first | (with_reducible first | exact HI0.out | apply IsS123.alloc | apply IsS123.drewN | apply IsS123.drew | apply IsS123.set_1 | apply IsS123.set_2) | exact HI0.out)) hg (IsS123.own_ne HI0.out HO214.out (by decide))); have n1_ := QU (hp_); have n2_ := QU (Kd.R_after (v := (.slice (some ⟨go9, 0, none⟩) t212.length co12)) (v1 := (.slice (some ⟨go9, 0, none⟩) t212.length co12)) (ok := (fun _ => True)) (by (with_reducible repeat (first | apply QO | apply QP | apply QR)); first | exact HO225.out | exact QT HO225.out (fun _ hk => ⟨trivial, hk⟩)) hg (.inl rfl)); have n3_ := QU ((by rw [hw]; exact QG (HB.out) (Nat.le_trans HL.out GB9.out) : Below w0.heap.size w0 w19)); have n4_ := QU (KeepBut.trans (by repeat (first | (with_reducible first | exact HK.out | apply KeepBut.set_ | apply QE | apply QH | apply QF) | exact HK.out)) (KeepBut.of_grown hg g) (Kd.R_base2 HO214.out)); clear HI0; clear HO214; clear HO225; clear HB; clear HK; have HI0 := n0_; have HO214 := n1_; have HO225 := n2_; have HB := n3_; have HK := n4_; clear n0_ n1_ n2_ n3_ n4_; clear hg hw hp_))
        go_ret
        exact ⟨_, by first | rfl | (simp [errW_none, errW_some] <;> rfl) | (simp [*, errW_none, errW_some] <;> rfl), Kd.Q_of_R (by (with_reducible repeat (first | apply QO | apply QP | apply QR)); exact QT HO214.out (fun _ hk => trivial)), by repeat (first | (with_reducible first | exact HI0.out | apply IsS123.alloc | apply IsS123.drewN | apply IsS123.drew | apply IsS123.set_1 | apply IsS123.set_2) | exact HI0.out), by repeat (first | (with_reducible first | exact HB.out | apply QC | apply QB | apply QD | refine QG ?_ (IsS123.ge HI0.out)) | exact HB.out), by repeat (first | (with_reducible first | exact HK.out | apply KeepBut.set_ | apply QE | apply QH | apply QF) | exact HK.out)⟩
      · rw [if_neg c8] at H
        exact absurd H (by simp)
    · rw [if_neg c7] at H
      exact absurd H (by simp)
  · rw [if_neg c4] at H
    have c4b0 : (t217 == 0) = false := beq_eq_false_iff_ne.mpr c4
    have c4b1 : (t217 != 0) = true := bne_iff_ne.mpr c4
    by_cases c20 : t217 = 1
    · rw [if_pos c20] at H
      have c20b0 : (t217 == 1) = true := beq_iff_eq.mpr c20
      have c20b1 : (t217 != 1) = false := bne_eq_false_iff_eq.mpr c20
      clear c20
      by_cases c21 : 1 ≤ (t212.length : Int)
      · rw [if_pos c21] at H
        have c21b0 := eq_true c21
        have c21b1 : decide (1 ≤ (t212.length : Int)) = true := decide_eq_true c21
        clear c21
        obtain ⟨y230, hy230⟩ : ∃ y_ : List Int, y_ = (t212.drop (1 : Int).toNat) := ⟨_, rfl⟩
        replace H : (some (y230, t218, t219)) = some (r1, r2, r3) := by first | (rw [hy230]; with_reducible exact H) | (have H2_ := (Option.bind_some _ _).symm.trans H; rw [hy230]; with_reducible exact H2_) | (have H2_ := (Option.bind_some _ _).symm.trans H; with_reducible exact H2_) | with_reducible exact H | (rw [hy230]; exact H) | exact H
        have Ny230 := QU hy230
        clear hy230
        simp only [Option.some.injEq, Prod.mk.injEq] at H
        obtain ⟨rfl, rfl, rfl⟩ := H
        go_enter Try.func149, Try.ntmps149
        go_wp2_with (first | ((with_reducible refine QM (f := 157) rfl ?_); refine goesL_ (some 5) rfl rfl Try.func157 (by kernel_rfl) rfl #[.pointer (some ⟨g, 0, none⟩), .int .i64 2] rfl (by (try simp only [List.map_toArray, List.map_cons, List.map_nil]); first | done | rfl | (simp only [List.length_drop, List.length_take]; rfl)) ?_; (with_reducible refine (spec_l8Draw.calls k g s0_0 s0_1 s0_2 2 t212 t215 t216 w0 _ ?side1 ?side2 A2.out).mono ?_); (case side1 => repeat (first | (with_reducible first | exact HI0.out | apply IsS123.alloc | apply IsS123.drewN | apply IsS123.drew | apply IsS123.set_1 | apply IsS123.set_2) | exact HI0.out)); (case side2 => repeat (first | (with_reducible first | exact HB.out | apply QC | apply QB | apply QD | refine QG ?_ (IsS123.ge HI0.out)) | exact HB.out)); rintro e w22 ⟨v213, rfl, ho0, hi, hb, hk⟩; refine ⟨_, rfl, ?_⟩; have n0_ := QU (Kd.R_lower ho0 (keep_size (w := w) (g := g) (row := none) (by repeat (first | (with_reducible first | exact HK.out | apply KeepBut.set_ | apply QE | apply QH | apply QF) | exact HK.out)))); have n1_ := QU (KeepBut.trans (by repeat (first | (with_reducible first | exact HK.out | apply KeepBut.set_ | apply QE | apply QH | apply QF) | exact HK.out)) hk (.inl rfl)); have n2_ := QU (hb); have n3_ := QU (hi); clear HK; clear HB; clear HI0; have HO214 := n0_; have HK := n1_; have HB := n2_; have HI0 := n3_; clear n0_ n1_ n2_ n3_; (try clear hb); (try clear hb2); (try clear hk); (try clear hi); (try clear ho0)) | ((with_reducible refine QM (f := 140) rfl ?_); refine goesL_ (some 7) rfl rfl Try.func140 (by kernel_rfl) rfl #[.pointer (some ⟨g, 0, none⟩), .int .i64 10] rfl (by (try simp only [List.map_toArray, List.map_cons, List.map_nil]); first | done | rfl | (simp only [List.length_drop, List.length_take]; rfl)) ?_; (with_reducible refine (spec_l1Below.calls g s0_0 t215 t216 10 t217 t218 t219 w0 _ ?side1 ?side2 A3.out).mono ?_); (case side1 => repeat (first | (with_reducible first | exact HI0.out | apply IsS123.alloc | apply IsS123.drewN | apply IsS123.drew | apply IsS123.set_1 | apply IsS123.set_2) | exact HI0.out)); (case side2 => repeat (first | (with_reducible first | exact HB.out | apply QC | apply QB | apply QD | refine QG ?_ (IsS123.ge HI0.out)) | exact HB.out)); rintro e w23 ⟨rfl, hi, hb, hk⟩; refine ⟨_, rfl, ?_⟩; have n0_ := QU (QT (Kd.R_keep (IsS123.apart (show IsS123 w0 _ g s0_0 t215 t216 from by repeat (first | (with_reducible first | exact HI0.out | apply IsS123.alloc | apply IsS123.drewN | apply IsS123.drew | apply IsS123.set_1 | apply IsS123.set_2) | exact HI0.out)) (by (with_reducible repeat (first | apply QO | apply QP | apply QR)); exact HO214.out) (by decide)) hk (fun _ h => h.2)) (fun _ h => h.1)); have n1_ := QU (KeepBut.trans (by repeat (first | (with_reducible first | exact HK.out | apply KeepBut.set_ | apply QE | apply QH | apply QF) | exact HK.out)) hk (.inl rfl)); have n2_ := QU (hb); have n3_ := QU (hi); clear HO214; clear HK; clear HB; clear HI0; have HO214 := n0_; have HK := n1_; have HB := n2_; have HI0 := n3_; clear n0_ n1_ n2_ n3_; (try clear hb); (try clear hb2); (try clear hk); (try clear hi); obtain ⟨Ao24, co24, eo24⟩ := Kd.R_slice HO214.out; subst eo24; have q25 : (1 : Int) ≤ ((t212.length : Int) : Int) := of_decide_eq_true (by first | (with_reducible assumption) | assumption); obtain ⟨i025, hi025, _, hsz25, _⟩ := info_parts info3; have hcut25 := cut_from (P := Try.prog) 22 3 .i64 Try.underlying22 hi025 1 hsz25 Ao24 t212.length co24 1 (by omega) q25; have hr25 := Kd.Q_drop (k := (1 : Int).toNat) (Kd.Q_of_R HO214.out) (by omega); obtain ⟨A25, hA25⟩ : ∃ A1, A1 = (if co24 = (1 : Int).toNat then Ao24 else (Ao24 : Option Addr).map (·.add ((1 : Int).toNat * 1))) := ⟨_, rfl⟩; obtain ⟨c25, hc25⟩ : ∃ c1, c1 = co24 - (1 : Int).toNat := ⟨_, rfl⟩; have hy25 : y230.length = t212.length - (1 : Int).toNat := (by rw [Ny230.out, List.length_drop]); rw [← Ny230.out] at hr25; rw [← hy25, ← hA25, ← hc25] at hcut25; replace hr25 : Kd.Q (Kd.int .i64) 3 w23 w.heap.size (fun _ => True) (.slice A25 y230.length c25) y230 := (by rw [hA25, hc25, hy25]; exact hr25); have HE25 : Aside0 ((Value.slice A25 y230.length c25).ownBlock = (.slice Ao24 t212.length co24 : Value).ownBlock) := ⟨by rw [hA25]; split <;> (cases (Ao24 : Option Addr) <;> rfl)⟩; clear hy25 hi025 hsz25 HO214 hA25 hc25; have HO232 := QU hr25; clear hr25; replace q25 := eq_true q25))
        go_ret
        exact ⟨_, by first | rfl | (simp [errW_none, errW_some] <;> rfl) | (simp [*, errW_none, errW_some] <;> rfl), by (with_reducible repeat (first | apply Kd.Q_alloc | apply Kd.Q_drewN | apply Kd.Q_drew)); exact HO232.out, by repeat (first | (with_reducible first | exact HI0.out | apply IsS123.alloc | apply IsS123.drewN | apply IsS123.drew | apply IsS123.set_1 | apply IsS123.set_2) | exact HI0.out), by repeat (first | (with_reducible first | exact HB.out | apply QC | apply QB | apply QD | refine QG ?_ (IsS123.ge HI0.out)) | exact HB.out), by repeat (first | (with_reducible first | exact HK.out | apply KeepBut.set_ | apply QE | apply QH | apply QF) | exact HK.out)⟩
      · rw [if_neg c21] at H
        exact absurd H (by simp)
    · rw [if_neg c20] at H
      have c20b0 : (t217 == 1) = false := beq_eq_false_iff_ne.mpr c20
      have c20b1 : (t217 != 1) = true := bne_iff_ne.mpr c20
      simp only [Option.some.injEq, Prod.mk.injEq] at H
      obtain ⟨rfl, rfl, rfl⟩ := H
      go_enter Try.func149, Try.ntmps149
      go_wp2_with (first | ((with_reducible refine QM (f := 157) rfl ?_); refine goesL_ (some 5) rfl rfl Try.func157 (by kernel_rfl) rfl #[.pointer (some ⟨g, 0, none⟩), .int .i64 2] rfl (by (try simp only [List.map_toArray, List.map_cons, List.map_nil]); first | done | rfl | (simp only [List.length_drop, List.length_take]; rfl)) ?_; (with_reducible refine (spec_l8Draw.calls k g s0_0 s0_1 s0_2 2 t212 t215 t216 w0 _ ?side1 ?side2 A2.out).mono ?_); (case side1 => repeat (first | (with_reducible first | exact HI0.out | apply IsS123.alloc | apply IsS123.drewN | apply IsS123.drew | apply IsS123.set_1 | apply IsS123.set_2) | exact HI0.out)); (case side2 => repeat (first | (with_reducible first | exact HB.out | apply QC | apply QB | apply QD | refine QG ?_ (IsS123.ge HI0.out)) | exact HB.out)); rintro e w26 ⟨v213, rfl, ho0, hi, hb, hk⟩; refine ⟨_, rfl, ?_⟩; have n0_ := QU (Kd.R_lower ho0 (keep_size (w := w) (g := g) (row := none) (by repeat (first | (with_reducible first | exact HK.out | apply KeepBut.set_ | apply QE | apply QH | apply QF) | exact HK.out)))); have n1_ := QU (KeepBut.trans (by repeat (first | (with_reducible first | exact HK.out | apply KeepBut.set_ | apply QE | apply QH | apply QF) | exact HK.out)) hk (.inl rfl)); have n2_ := QU (hb); have n3_ := QU (hi); clear HK; clear HB; clear HI0; have HO214 := n0_; have HK := n1_; have HB := n2_; have HI0 := n3_; clear n0_ n1_ n2_ n3_; (try clear hb); (try clear hb2); (try clear hk); (try clear hi); (try clear ho0)) | ((with_reducible refine QM (f := 140) rfl ?_); refine goesL_ (some 7) rfl rfl Try.func140 (by kernel_rfl) rfl #[.pointer (some ⟨g, 0, none⟩), .int .i64 10] rfl (by (try simp only [List.map_toArray, List.map_cons, List.map_nil]); first | done | rfl | (simp only [List.length_drop, List.length_take]; rfl)) ?_; (with_reducible refine (spec_l1Below.calls g s0_0 t215 t216 10 t217 t218 t219 w0 _ ?side1 ?side2 A3.out).mono ?_); (case side1 => repeat (first | (with_reducible first | exact HI0.out | apply IsS123.alloc | apply IsS123.drewN | apply IsS123.drew | apply IsS123.set_1 | apply IsS123.set_2) | exact HI0.out)); (case side2 => repeat (first | (with_reducible first | exact HB.out | apply QC | apply QB | apply QD | refine QG ?_ (IsS123.ge HI0.out)) | exact HB.out)); rintro e w27 ⟨rfl, hi, hb, hk⟩; refine ⟨_, rfl, ?_⟩; have n0_ := QU (QT (Kd.R_keep (IsS123.apart (show IsS123 w0 _ g s0_0 t215 t216 from by repeat (first | (with_reducible first | exact HI0.out | apply IsS123.alloc | apply IsS123.drewN | apply IsS123.drew | apply IsS123.set_1 | apply IsS123.set_2) | exact HI0.out)) (by (with_reducible repeat (first | apply QO | apply QP | apply QR)); exact HO214.out) (by decide)) hk (fun _ h => h.2)) (fun _ h => h.1)); have n1_ := QU (KeepBut.trans (by repeat (first | (with_reducible first | exact HK.out | apply KeepBut.set_ | apply QE | apply QH | apply QF) | exact HK.out)) hk (.inl rfl)); have n2_ := QU (hb); have n3_ := QU (hi); clear HO214; clear HK; clear HB; clear HI0; have HO214 := n0_; have HK := n1_; have HB := n2_; have HI0 := n3_; clear n0_ n1_ n2_ n3_; (try clear hb); (try clear hb2); (try clear hk); (try clear hi)))
      go_ret
      exact ⟨_, by first | rfl | (simp [errW_none, errW_some] <;> rfl) | (simp [*, errW_none, errW_some] <;> rfl), Kd.Q_of_R (by (with_reducible repeat (first | apply QO | apply QP | apply QR)); exact HO214.out), by repeat (first | (with_reducible first | exact HI0.out | apply IsS123.alloc | apply IsS123.drewN | apply IsS123.drew | apply IsS123.set_1 | apply IsS123.set_2) | exact HI0.out), by repeat (first | (with_reducible first | exact HB.out | apply QC | apply QB | apply QD | refine QG ?_ (IsS123.ge HI0.out)) | exact HB.out), by repeat (first | (with_reducible first | exact HK.out | apply KeepBut.set_ | apply QE | apply QH | apply QF) | exact HK.out)⟩

end Go.Proofs.Ytdakhelapeojgaa.QFnRules
