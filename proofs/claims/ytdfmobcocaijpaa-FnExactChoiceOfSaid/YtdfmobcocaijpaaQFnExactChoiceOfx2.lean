/- What a call of each Go function that FnExactChoiceOf reaches comes to, as a Lean function: texts of the kit's print, turned by wip/remake.py. No condition beyond what each names. -/
import Derived.Test.YtdfmobcocaijpaaQFnExactChoiceOfx1
namespace Go.Proofs.Ytdfmobcocaijpaa.QFnExactChoiceOf
open Go.RowKit Go.Proofs.YtdfmobcocaijpaaW.PrintWords Go.Proofs.YtdfmobcocaijpaaW.PrintLast Go.Proofs.YtdfmobcocaijpaaW.PrintMore
open Go.Proofs.YtdfmobcocaijpaaW.PrintWords renaming pw_below_drewN → QB, below_drew1 → QC, below_alloc → QE, blk_frozen → QI, below_size → QJ, blk_cell → QK
open Go.Proofs.YtdfmobcocaijpaaW.PrintLast renaming i64_w → QD, i32_w → QF, any_of → QG, pure_ → QH
open List renaming setIfInBounds_toArray → QL, set_cons_zero → QM, set_cons_succ → QN
open Go.Proofs.YtdfmobcocaijpaaW.PrintWords.Aside0 renaming mk → QO
open Option renaming bind_eq_some_iff → QP
attribute [local go_sem] max2_int min2_int max_two min_two max_three min_three max_four min_four   -- for this text's walks alone
set_option linter.unusedVariables false
set_option linter.unusedSimpArgs false

/-! ### spec_Sorted: function 27 -/
/-- The place behind the last of the first k elements that is not above c. -/
def kAt (out : List Int) (c : Int) : Nat → Nat
 | 0 => 0
 | k + 1 => if out.getD k 0 > c then kAt out c k else k + 1
def insF (out : List Int) (c : Int) : List Int := out.take (kAt out c out.length) ++ c :: out.drop (kAt out c out.length)
def sortF : List Int → List Int → List Int
 | out, [] => out
 | out, c :: r => sortF (insF out c) r
theorem kAt_le (out : List Int) (c : Int) : ∀ k, kAt out c k ≤ k
 | 0 => Nat.le_refl _
 | k + 1 => by
  unfold kAt
  split
  ·exact Nat.le_succ_of_le (kAt_le out c k)
  ·exact Nat.le_refl _
theorem insF_length (out : List Int) (c : Int) : (insF out c).length = out.length + 1 := by
 have := kAt_le out c out.length
 simp [insF]
 omega
theorem cut_from {P : Program} (t e : TypeId) {i : TypeInfo} (ht : P.underlying t = some (.slice e)) (hi : P.info? e = some i) (hsz : i.size = 1) (g n c m : Nat) (hm : m ≤ n) :
  ∃ A' : Option Addr, (∀ W : World, (Instr.slice t (.slice (some ⟨g, 0, none⟩) n c) (some (.int .i64 (m : Int))) none none).run P W = .ok (.slice A' (n - m) (c - m)) W) ∧ (m < c → A' = some ⟨g, m, none⟩) := by
 refine ⟨if c = m then some ⟨g, 0, none⟩ else (some (⟨g, 0, none⟩ : Addr)).map (·.add m), fun W => ?_, fun h => by rw [if_neg (by omega)]; simp [Addr.add, eq_comm]⟩
 have hel : P.elem t = e := by simp [Program.elem, ht]
 have hu : P.underlying t = some (.slice (P.elem t)) := by rw [hel]; exact ht
 rw [run_slice_l W t (some ⟨g, 0, none⟩) n c hu .i64 (m : Int) (Int.natCast_nonneg _) (by omega), hel]
 simp [sizeOf, typeInfo, hi, hsz, sliced, Result.andThen]
theorem ins_cells (cur : List Value) (out : List Int) (c : Int) (K : Nat) (hK : K ≤ out.length) (h : cur.take (out.length + 1) = (out ++ [0]).map (Value.int .i64)) :
  ((splice cur (K + 1) ((out.drop K).map (Value.int .i64))).set K (.int .i64 c)).take (out.length + 1) = (out.take K ++ c :: out.drop K).map (Value.int .i64) := by
 have hl : out.length + 1 ≤ cur.length := by have := congrArg List.length h; simp at this; omega
 have h2 : cur.take K = (out.take K).map (Value.int .i64) := by
  have h3 := congrArg (List.take K) h
  rw [List.take_take, Nat.min_eq_left (by omega), ← List.map_take, List.take_append_of_le_length hK] at h3
  exact h3
 obtain ⟨y, hy⟩ : ∃ y, cur.take (K + 1) = (out.take K).map (Value.int .i64) ++ [y] := ⟨cur[K]'(by omega), by rw [List.take_succ_eq_append_getElem (by omega), h2]⟩
 have l1 : ((out.take K).map (Value.int .i64)).length = K := by simp; omega
 unfold Go.splice
 rw [hy, List.append_assoc, List.set_append_right _ _ (by omega), l1, Nat.sub_self]
 simp only [List.cons_append, List.nil_append, QM, List.map_append, List.map_cons]
 rw [← List.cons_append, ← List.append_assoc, List.take_left' (by simp; omega)]
theorem w64_ (n : Int) (h : -9223372036854775808 ≤ n) (h' : n ≤ 9223372036854775807) : IntKind.i64.wrap n = n := by rw [QD]; unfold wrap64; omega
/-- A row of numbers of the call's own, its block told whole. -/
def OwnI (w : World) (base : Nat) (v : Value) (xs : List Int) : Prop :=
 ∃ g cap cur, v = .slice (some ⟨g, 0, none⟩) xs.length cap ∧ base ≤ g ∧ w.heap[g]? = some (.cells cur 3 (0, 0)) ∧ xs.length ≤ cap ∧ cap ≤ maxLen ∧ cur.size = cap ∧ cur.toList.take xs.length = xs.map (Value.int .i64)
theorem OwnI.own {w : World} {base : Nat} {v : Value} {xs : List Int} (h : OwnI w base v xs) : w.ownsRow base 3 1 v xs.length (xs.map (Value.int .i64)) := by
 obtain ⟨g, cap, cur, h1, h2, h3, h4, h5, h6, h7⟩ := h
 exact ⟨by simp, .inr ⟨g, cap, cur, h1, h2, h3, h4, h5, by omega, by simpa using h7⟩⟩
theorem OwnI.row {w : World} {base : Nat} {v : Value} {xs : List Int} (h : OwnI w base v xs) : Kd.R (Kd.int .i64) 3 w base (fun _ => True) v xs := by
 refine ⟨fun _ _ => trivial, xs.map (Value.int .i64), h.own, by simp [Kd.int, Kd.scalar], fun j p hp => ?_⟩
 show ((xs.map (Value.int .i64)).drop (j * 1)).take 1 = [Value.int .i64 p]
 have hj : j < xs.length := (List.getElem?_eq_some_iff.1 hp).1
 have e := (List.getElem?_eq_some_iff.1 hp).2
 rw [Nat.mul_one, List.drop_eq_getElem_cons (by simpa using hj)]
 simp [e]
theorem OwnI.of_own {w : World} {base : Nat} {v : Value} {xs : List Int} (h : w.ownsRow base 3 1 v xs.length (xs.map (Value.int .i64))) (hp : 0 < xs.length) : OwnI w base v xs := by
 obtain ⟨h1, h2 | ⟨g, cap, cur, h3, h4, h5, h6, h7, h8, h9⟩⟩ := h
 ·omega
 ·exact ⟨g, cap, cur, h3, h4, h5, h6, h7, by omega, by simpa using h9⟩
theorem OwnI.cell {w : World} {base g cap : Nat} {xs : List Int} (h : OwnI w base (.slice (some ⟨g, 0, none⟩) xs.length cap) xs) (j : Nat) (hj : j < xs.length) : w.cell? ⟨g, j, none⟩ = some (.int .i64 (xs.getD j 0)) := by
 obtain ⟨g', cap', cur, h1, _, h3, _, _, _, h7⟩ := h
 injection h1 with e1 _ _
 injection e1 with e1
 injection e1 with e1 _
 subst e1
 rw [cell_of_row w g j cur 3 (0, 0) h3, ← Array.getElem?_toList]
 have := congrArg (fun l => l[j]?) h7
 simpa [List.getElem?_take, hj, List.getD_eq_getElem?_getD] using this
def impl_Sorted.f (l : List Int) : Option (List Int) := if l.length < 17592186044416 then some (sortF [] l) else none
set_option maxHeartbeats 8000000 in
set_option maxRecDepth 100000 in
theorem impl_Sorted.calls (A0 : Option Addr) (c0 : Nat) (l0 : List Int) (r : List Int) (w : World) (hr0 : Kd.C (Kd.int .i64) w A0 l0.length l0) (hc0 : l0.length ≤ c0) (h : impl_Sorted.f l0 = some r) :
  Calls Try.prog 32 #[.slice A0 l0.length c0] w fun e w' => ∃ v0_ : Value, e = .returned (v0_) ∧ Kd.R (Kd.int .i64) 3 w' w.heap.size (fun _ => True) v0_ r ∧ Below w.heap.size w w' := by
 unfold impl_Sorted.f at h
 split at h
 case isFalse => exact absurd h (by simp)
 case isTrue hlen =>
 obtain rfl := Option.some.inj h
 have HR0 := QO hr0
 have HL := QO hlen
 clear hr0 hlen h
 have z0 : Aside0 (OwnI (w.alloc (.cells #[] 3)) w.heap.size (.slice (some ⟨w.heap.size, 0, none⟩) 0 0) []) := ⟨⟨w.heap.size, 0, #[], rfl, Nat.le_refl _, heap_alloc_new _ _, Nat.le_refl _, Nat.zero_le _, rfl, rfl⟩⟩
 go_enter Try.func32, Try.ntmps32
 go_wp2
 go_loopg [3, 10] l0.length (fun g v3 v10 wx => ∃ (i : Nat) (out : List Int), v10 = .int .i64 (i : Int) ∧ Aside0 (i + g = l0.length) ∧ Aside0 (out.length = i) ∧ Aside0 (sortF out (l0.drop i) = sortF [] l0) ∧ Aside0 (OwnI wx w.heap.size v3 out) ∧ Aside0 (Below w.heap.size w wx))
 case atStart => exact ⟨0, [], rfl, ⟨by simp⟩, ⟨rfl⟩, ⟨rfl⟩, z0, ⟨(Below.refl _ _).alloc (Nat.le_refl _) _⟩⟩
 case round =>
  clear z0
  obtain ⟨i, out, rfl, HI, HO, HH, HC, HB⟩ := hrel
  cases gk with
  | zero =>
   have hi : ¬ ((i : Int) < (l0.length : Int)) := by have := HI.out; omega
   have hi' : decide ((i : Int) < (l0.length : Int)) = false := decide_eq_false hi
   have hi'' : decide (i < l0.length) = false := by have := HI.out; simp; omega
   clear hi
   have fin : sortF [] l0 = out := by rw [← HH.out, List.drop_of_length_le (by have := HI.out; omega)]; rfl
   have FIN := QO fin
   clear fin
   go_wp2
   go_ret
   exact ⟨_, rfl, by rw [FIN.out]; exact HC.out.row, HB.out⟩
  | succ g =>
   have hi : (i : Int) < (l0.length : Int) := by have := HI.out; omega
   have h0 : 0 ≤ (i : Int) := by omega
   obtain ⟨ad, e1, hx⟩ := Kd.at_int (Kd.C_below HR0.out HB.out) (i : Int) h0 hi
   cases e1
   simp only [Int.toNat_natCast] at hx
   have hdrop : l0.drop i = rd l0 (i : Int) :: l0.drop (i + 1) := by
    have hn : i < l0.length := by omega
    rw [List.drop_eq_getElem_cons hn]
    unfold rd
    simp [List.getD_eq_getElem?_getD, List.getElem?_eq_getElem hn]
   have HD := QO hdrop
   clear hdrop
   generalize hc : rd l0 (i : Int) = c at *
   clear hc
   have NXT : Aside0 (sortF (insF out c) (l0.drop (i + 1)) = sortF [] l0) := ⟨by rw [← HH.out, HD.out]; rfl⟩
   obtain ⟨bg, cap, cur, rfl, hbg, hcur, hcap1, hcap2, hsz, htk⟩ := HC.out
   have HCUR := QO hcur
   have HBG := QO hbg
   have HCAP := QO hcap1
   have HSZ := QO hsz
   have HTK := QO htk
   clear hbg hcur hcap1 hcap2 hsz htk
   have hib : (i : Int) < 17592186044416 := by have := HL.out; omega
   have hlo : (out.length : Int) < 9223372036854775807 := by have := HO.out; have := HL.out; omega
   go_upto_block 2 with (fail)
   go_cut [6] (fun v6 wc => v6 = .int .i64 ((kAt out c out.length : Nat) : Int) ∧ wc = wr)
   case first =>
    go_wp2
    go_loop [6] (fun v6 => ∃ k : Nat, v6 = .int .i64 (k : Int) ∧ Aside0 (k ≤ out.length) ∧ Aside0 (kAt out c k = kAt out c out.length)) (fun v6 => (intOf v6).toNat)
    case atStart => exact ⟨out.length, rfl, ⟨Nat.le_refl _⟩, ⟨rfl⟩⟩
    case round =>
     obtain ⟨k, rfl, HK, HKA⟩ := hrel
     cases k with
     | zero =>
      have hz : kAt out c out.length = 0 := HKA.out.symm
      have HZ := QO hz
      clear hz
      go_wp2
      go_meet
      case rel => exact ⟨by rw [HZ.out]; rfl, rfl⟩
     | succ k =>
      have hk : k < out.length := HK.out
      have hcell := HC.out.cell k hk
      have e1 : (((k + 1 : Nat) : Int) - 1) = (k : Int) := by omega
      by_cases hgt : out.getD k 0 > c
      ·have hg1 : decide (c < out.getD k 0) = true := decide_eq_true hgt
       have HKB : Aside0 (kAt out c k = kAt out c out.length) := ⟨by rw [← HKA.out, kAt, if_pos hgt]⟩
       clear hgt
       generalize out.getD k 0 = y at *
       go_wp2
       go_round
       case rel => exact ⟨k, rfl, ⟨by omega⟩, HKB⟩
       case measure => simp [intOf]
      ·have hg1 : decide (c < out.getD k 0) = false := decide_eq_false hgt
       have HZ : Aside0 (kAt out c out.length = k + 1) := ⟨by rw [← HKA.out, kAt, if_neg hgt]⟩
       clear hgt
       generalize out.getD k 0 = y at *
       go_wp2
       go_meet
       case rel => exact ⟨by rw [HZ.out]; rfl, rfl⟩
   case rest =>
    obtain ⟨rfl, rfl⟩ := hcut
    have hK := kAt_le out c out.length
    have IN : Aside0 (insF out c = out.take (kAt out c out.length) ++ c :: out.drop (kAt out c out.length)) := ⟨rfl⟩
    generalize kAt out c out.length = K at *
    go_wp2_with (((with_reducible refine gate_builtin (b := .append) (xs := #[.tmp 29, .tmp 30]) rfl ?_); at_builtin; refine print_append_cells (w0 := w) w.heap.size rfl (.tmp 29) (.tmp 30) 22 3 (.int .i64 0) 1 8 rfl Try.underlying22 info3 rfl (by decide) (by decide) (.slice (some ⟨bg, 0, none⟩) out.length cap) out.length (out.map (Value.int .i64)) [.int .i64 0] rfl rfl rfl (by intro u hu; rw [List.mem_singleton.1 hu]; rfl) HC.out.own HB.out (QJ HB.out) (by have := HO.out; have := HL.out; omega) ?_; intro v1 w1 hown hb1 _ _; clear HC HB HCUR HBG HCAP HSZ HTK))
    have C1 : OwnI w1 w.heap.size v1 (out ++ [0]) := OwnI.of_own (by simpa using hown) (by simp)
    have HC1 := QO C1
    obtain ⟨g1, cap1, cur1, rfl, hg1, hcur1, hc1a, hc1b, hsz1, htk1⟩ := C1
    have HB1 := QO hb1
    have HG1 := QO hg1
    have HCU := QO hcur1
    have HSZ1 := QO hsz1
    have HCA := QO (show out.length + 1 ≤ cap1 by simpa using hc1a)
    have HMX := QO hc1b
    have HTK1 := QO (show cur1.toList.take (out.length + 1) = (out ++ [0]).map (Value.int .i64) by simpa using htk1)
    obtain ⟨i0, hi0, hsz0⟩ : ∃ i0, Try.prog.info? 3 = some i0 ∧ i0.size = 1 := by
     obtain ⟨i0, hi0, hz⟩ := Option.map_eq_some_iff.1 info3
     exact ⟨i0, hi0, congrArg (fun p => p.2.1) hz⟩
    have hs1 : (Try.prog.info? 3).map (·.size) = some 1 := by rw [hi0]; simp [hsz0]
    obtain ⟨A1, hA1, hA1'⟩ := cut_from (P := Try.prog) 22 3 Try.underlying22 hi0 hsz0 g1 (out.length + 1) cap1 (K + 1) (by omega)
    obtain ⟨A2, hA2, hA2'⟩ := cut_from (P := Try.prog) 22 3 Try.underlying22 hi0 hsz0 g1 (out.length + 1) cap1 K (by omega)
    obtain rfl := hA2' (by have := HCA.out; omega)
    have HA1 := QO hA1'
    have HS1 := QO hs1
    clear hown hb1 hg1 hcur1 hsz1 hc1a hc1b htk1 hA1' hA2' hi0 hsz0 hs1
    have eL : (out ++ [0]).length = out.length + 1 := by simp
    have eK : ((K + 1 : Nat) : Int) = (K : Int) + 1 := by omega
    rw [eK] at hA1
    rw [eL]
    have hwr : IntKind.i64.wrap ((K : Int) + 1) = (K : Int) + 1 := w64_ ((K : Int) + 1) (by omega) (by omega)
    refine start_ (n := 8) (S := fun _ => True) (ds := [7]) #[false, false, false, false, false, false, false, false] (by kernel_rfl) rfl rfl trivial (fun hHeld => ?_)
    refine QH (i := 0) (N := some 32) (v := ?_) (a' := ?_) #[true, false, false, false, false, false, false, false] rfl rfl (by kernel_rfl) (fun _ _ _ h => h) (Or.inl ⟨by rfl, ?_⟩) ?_ ?_
    rotate_left
    ·intro w'
     go_simp
     with_reducible rfl
    rotate_left
    ·simp only [Act.put, QL, QM, QN, QD, QF]
     rfl
    refine QH (i := 1) (N := some 33) (v := ?_) (a' := ?_) #[true, true, false, false, false, false, false, false] rfl rfl (by kernel_rfl) (fun _ _ _ h => h) (Or.inl ⟨by rfl, ?_⟩) ?_ ?_
    rotate_left
    ·intro w'
     go_simp
     with_reducible rfl
    rotate_left
    ·simp only [Act.put, QL, QM, QN, QD, QF]
     rfl
    refine QH (i := 2) (N := some 34) (v := ?_) (a' := ?_) #[true, true, true, false, false, false, false, false] rfl rfl (by kernel_rfl) (fun _ _ _ h => h) (Or.inl ⟨by rfl, ?_⟩) ?_ ?_
    rotate_left
    ·intro w'
     go_simp
     with_reducible rfl
    rotate_left
    ·simp only [Act.put, QL, QM, QN, QD, QF]
     rfl
    refine QH (i := 3) (N := some 35) (v := ?_) (a' := ?_) #[true, true, true, true, false, false, false, false] rfl rfl (by kernel_rfl) (fun _ _ _ h => h) (Or.inl ⟨by rfl, ?_⟩) ?_ ?_
    rotate_left
    ·intro w'
     go_simp
     with_reducible rfl
    rotate_left
    ·simp only [Act.put, QL, QM, QN, QD, QF]
     rfl
    refine QH (i := 4) (N := some 36) (v := ?_) (a' := ?_) #[true, true, true, true, true, false, false, false] rfl rfl (by kernel_rfl) (fun _ _ _ h => h) (Or.inl ⟨by rfl, ?_⟩) ?_ ?_
    rotate_left
    ·intro w'
     go_simp
     with_reducible rfl
    rotate_left
    ·simp only [Act.put, QL, QM, QN, QD, QF]
     rfl
    refine QH (i := 5) (N := some 37) (v := ?_) (a' := ?_) #[true, true, true, true, true, true, false, false] rfl rfl (by kernel_rfl) (fun _ _ _ h => h) (Or.inl ⟨by rfl, ?_⟩) ?_ ?_
    rotate_left
    ·intro w'
     go_simp
     with_reducible rfl
    rotate_left
    ·simp only [Act.put, QL, QM, QN, QD, QF]
     rfl
    refine QH (i := 6) (N := some 38) (v := ?_) (a' := ?_) #[true, true, true, true, true, true, true, false] rfl rfl (by kernel_rfl) (fun _ _ _ h => h) (Or.inl ⟨by rfl, ?_⟩) ?_ ?_
    rotate_left
    ·intro w'
     go_simp
     with_reducible rfl
    rotate_left
    ·simp only [Act.put, QL, QM, QN, QD, QF]
     rfl
    refine last_ (i := 7) (N := some 39) #[true, true, true, true, true, true, true, true] rfl rfl (by kernel_rfl) (by decide) (fun K_ hK_ => ?_)
    have hc0' : ∀ j u, ((out.drop K).map (Value.int .i64))[j]? = some u → w1.drew.cell? ((⟨g1, K, none⟩ : Addr).add j) = some u := by
     intro j u hu
     rw [List.getElem?_map, List.getElem?_drop] at hu
     obtain ⟨y, hy, rfl⟩ := Option.map_eq_some_iff.1 hu
     have hlt := (List.getElem?_eq_some_iff.1 hy).1
     have := HC1.out.cell (K + j) (by rw [eL]; omega)
     have e2 : (out ++ [0]).getD (K + j) 0 = y := by simp [List.getD_eq_getElem?_getD, List.getElem?_append_left hlt, hy]
     rw [e2] at this
     have e3 : (⟨g1, K, none⟩ : Addr).add j = ⟨g1, K + j, none⟩ := by by_cases hj : j = 0 <;> simp [Addr.add, hj]
     rw [e3]
     exact this
    refine step_copy_splice rfl (.tmp 35) (.tmp 38) 22 22 rfl 3 Try.underlying22 HS1.out A1 (some ⟨g1, K, none⟩) (out.length - K) (cap1 - (K + 1)) (out.length + 1 - K) (cap1 - K) rfl rfl g1 (K + 1) cur1.toList 3 (show w1.drew.heap[g1]? = _ from HCU.out) ((out.drop K).map (Value.int .i64)) (by simp [Nat.min_def]; omega) (fun hp => ⟨HA1.out (by have := HCA.out; simp at hp; omega), _, rfl, hc0'⟩) (by have := HCA.out; have := HSZ1.out; simp; omega) (by intro u hu; obtain ⟨y, _, rfl⟩ := List.mem_map.1 hu; rfl) w.heap.size w (below_drew HB1.out) HG1.out ?_
    intro w2 hg2 hb2
    refine hK_.out _ _ ?_
    clear hK_ K_ hHeld hA1 hA2
    refine done_ (by kernel_rfl) ?_
    have hls : (Go.splice cur1.toList (K + 1) ((out.drop K).map (Value.int .i64))).length = cap1 := by rw [length_splice _ _ _ (by have := HCA.out; have := HSZ1.out; simp; omega)]; simpa using HSZ1.out
    have hb := hg2.out
    obtain ⟨y, hy⟩ : ∃ y, w2.cell? ⟨g1, K, none⟩ = some y := ⟨_, (QK hb K).trans (Array.getElem?_eq_getElem (by rw [List.size_toArray, hls]; have := HCA.out; omega))⟩
    have hf2 := QI hb K
    have HN : Aside0 (OwnI (w2.setCell ⟨g1, K, none⟩ (.int .i64 c)) w.heap.size (.slice (some ⟨g1, 0, none⟩) (out.length + 1) cap1) (insF out c)) := ⟨⟨g1, cap1, _, by rw [insF_length], HG1.out, blk_set hb K (.int .i64 c), by rw [insF_length]; exact HCA.out, HMX.out, by simpa using hls, by
     rw [insF_length, IN.out, ← ins_cells cur1.toList out c K hK HTK1.out]
     simp⟩⟩
    have HB2 := QO hb2
    clear hb hg2 hb2 hls hc0' eL eK
    go_wp2
    go_roundg g
    case measure => omega
    case rel => exact ⟨i + 1, insF out c, by go_num, ⟨by have := HI.out; omega⟩, ⟨by rw [insF_length, HO.out]⟩, NXT, HN, ⟨below_set HB2.out HG1.out⟩⟩

theorem own_grown {X Y : World} {base : Nat} {ok : Nat → Prop} {v : Value} {xs : List Int} {row : Option Nat} (h : (Kd.int .i64).R 3 X base ok v xs) (hg : X.grownBy Y row) (hne : row = none ∨ v.ownBlock ≠ row) : (Kd.int .i64).R 3 Y base ok v xs :=
 Kd.R_mono (Kd.R_step (Kd.R_tight rfl h) (fun k hk hlt => hg.block k hlt (by rcases hne with e | e <;> first | (rw [e]; simp; done) | (rw [hk]; exact e)))) (fun k hk => h.1 k hk.symm)
theorem C_of_cells {w : World} {A : Option Addr} {xs : List Int} (hm : xs.length ≤ 9223372036854775807) (h : 0 < xs.length → ∃ g o, A = some ⟨g, o, none⟩ ∧ ∀ j, j < xs.length → w.cell? ⟨g, o + j, none⟩ = some (.int .i64 (xs.getD j 0))) : Kd.C (Kd.int .i64) w A xs.length xs := by
 refine ⟨rfl, hm, fun hp => ?_⟩
 obtain ⟨g, o, rfl, hc⟩ := h hp
 refine ⟨_, rfl, fun j p hj => ⟨[.int .i64 p], rfl, rfl, fun i u hi => ?_⟩⟩
 have hjl := (List.getElem?_eq_some_iff.1 hj).1
 obtain ⟨rfl, rfl⟩ : i = 0 ∧ u = .int .i64 p := by
  cases i with
  | zero => exact ⟨rfl, by simpa using hi.symm⟩
  | succ i => simp at hi
 have e : (⟨g, o, none⟩ : Addr).add (j * (Kd.int .i64).sz + 0) = ⟨g, o + j, none⟩ := by
  show (⟨g, o, none⟩ : Addr).add (j * 1 + 0) = _
  by_cases h0 : j = 0 <;> simp [Addr.add, h0]
 rw [e, hc j hjl]
 simp [List.getD_eq_getElem?_getD, hj]
def spec_Sorted.f (l : List Int) : Option (List Int) := if l.length < 17592186044416 then some (sortF [] l) else none
set_option maxHeartbeats 8000000 in
set_option maxRecDepth 100000 in
theorem spec_Sorted.calls (A0 : Option Addr) (c0 : Nat) (l0 : List Int) (r : List Int) (w : World) (hr0 : Kd.C (Kd.int .i64) w A0 l0.length l0) (hc0 : l0.length ≤ c0) (h : spec_Sorted.f l0 = some r) :
  Calls Try.prog 27 #[.slice A0 l0.length c0] w fun e w' => ∃ v0_ : Value, e = .returned (v0_) ∧ Kd.R (Kd.int .i64) 3 w' w.heap.size (fun _ => True) v0_ r ∧ Below w.heap.size w w' := by
 unfold spec_Sorted.f at h
 split at h
 case isFalse => exact absurd h (by simp)
 case isTrue hlen =>
 obtain rfl := Option.some.inj h
 have HR0 := QO hr0
 have HL := QO hlen
 clear hr0 hlen h
 have z0 : Aside0 (OwnI (w.alloc (.cells #[] 3)) w.heap.size (.slice (some ⟨w.heap.size, 0, none⟩) 0 0) []) := ⟨⟨w.heap.size, 0, #[], rfl, Nat.le_refl _, heap_alloc_new _ _, Nat.le_refl _, Nat.zero_le _, rfl, rfl⟩⟩
 go_enter Try.func27, Try.ntmps27
 go_wp2
 go_loopg [3, 4] l0.length (fun g v3 v4 wx => ∃ (i : Nat) (out : List Int), v4 = .int .i64 (i : Int) ∧ Aside0 (i + g = l0.length) ∧ Aside0 (out.length = i) ∧ Aside0 (sortF out (l0.drop i) = sortF [] l0) ∧ Aside0 (OwnI wx w.heap.size v3 out) ∧ Aside0 (Below w.heap.size w wx))
 case atStart => exact ⟨0, [], rfl, ⟨by simp⟩, ⟨rfl⟩, ⟨rfl⟩, z0, ⟨(Below.refl _ _).alloc (Nat.le_refl _) _⟩⟩
 case round =>
  clear z0
  obtain ⟨wo, rfl⟩ : ∃ wo : World, wo = wr := ⟨_, rfl⟩
  obtain ⟨i, out, rfl, HI, HO, HH, HC, HB⟩ := hrel
  cases gk with
  | zero =>
   have hi : ¬ ((i : Int) < (l0.length : Int)) := by have := HI.out; omega
   have hi' : decide ((i : Int) < (l0.length : Int)) = false := decide_eq_false hi
   have hi'' : decide (i < l0.length) = false := by have := HI.out; simp; omega
   clear hi
   have fin : sortF [] l0 = out := by rw [← HH.out, List.drop_of_length_le (by have := HI.out; omega)]; rfl
   have FIN := QO fin
   clear fin
   go_wp2
   go_ret
   exact ⟨_, rfl, by rw [FIN.out]; exact HC.out.row, HB.out⟩
  | succ g =>
   have hi : (i : Int) < (l0.length : Int) := by have := HI.out; omega
   have h0 : 0 ≤ (i : Int) := by omega
   obtain ⟨ad, e1, hx⟩ := Kd.at_int (Kd.C_below HR0.out HB.out) (i : Int) h0 hi
   cases e1
   simp only [Int.toNat_natCast] at hx
   have hadl : ad.block < w.heap.size := by
    obtain ⟨ad2, e2, hx2⟩ := Kd.at_int HR0.out (i : Int) h0 hi
    cases e2
    have := World.block_lt_of_cell? w _ hx2
    by_cases hj : i = 0 <;> simpa [Addr.add, hj] using this
   have HAD := QO hadl
   clear hadl
   have hdrop : l0.drop i = rd l0 (i : Int) :: l0.drop (i + 1) := by
    have hn : i < l0.length := by omega
    rw [List.drop_eq_getElem_cons hn]
    unfold rd
    simp [List.getD_eq_getElem?_getD, List.getElem?_eq_getElem hn]
   have HD := QO hdrop
   clear hdrop
   generalize hc : rd l0 (i : Int) = c at *
   clear hc
   have NXT : Aside0 (sortF (insF out c) (l0.drop (i + 1)) = sortF [] l0) := ⟨by rw [← HH.out, HD.out]; rfl⟩
   obtain ⟨bg, cap, cur, rfl, hbg, hcur, hcap1, hcap2, hsz, htk⟩ := HC.out
   clear hbg hcur hcap2 hsz htk
   have HCAP := QO hcap1
   clear hcap1
   have hib : (i : Int) < 17592186044416 := by have := HL.out; omega
   have hlo : (out.length : Int) < 9223372036854775807 := by have := HO.out; have := HL.out; omega
   go_upto_block 2 with (fail)
   go_cut [5] (fun v5 wc => v5 = .int .i64 ((kAt out c out.length : Nat) : Int) ∧ Drawn0 wo wc)
   case first =>
    go_wp2
    go_loopw [5] (fun v5 wv => ∃ k : Nat, v5 = .int .i64 (k : Int) ∧ Aside0 (k ≤ out.length) ∧ Aside0 (kAt out c k = kAt out c out.length) ∧ Drawn0 wo wv) (fun v5 _ => (intOf v5).toNat)
    case atStart => exact ⟨out.length, rfl, ⟨Nat.le_refl _⟩, ⟨rfl⟩, Drawn0.refl _⟩
    case round =>
     obtain ⟨k, rfl, HK, HKA, ⟨n, rfl⟩⟩ := hrel
     cases k with
     | zero =>
      have hz : kAt out c out.length = 0 := HKA.out.symm
      have HZ := QO hz
      clear hz
      go_wp2
      repeat (go_quiet (fail); try go_wp2)
      go_meet
      case rel => exact ⟨by rw [HZ.out] <;> rfl, by repeat (first | exact Drawn0.refl _ | apply Drawn0.step)⟩
     | succ k =>
      have hk : k < out.length := HK.out
      have hcell := HC.out.cell k hk
      have e1 : (((k + 1 : Nat) : Int) - 1) = (k : Int) := by omega
      by_cases hgt : out.getD k 0 > c
      ·have hg1 : decide (c < out.getD k 0) = true := decide_eq_true hgt
       have HKB : Aside0 (kAt out c k = kAt out c out.length) := ⟨by rw [← HKA.out, kAt, if_pos hgt]⟩
       clear hgt
       generalize out.getD k 0 = y at *
       go_wp2
       repeat (go_quiet (fail); try go_wp2)
       go_roundw
       case rel => exact ⟨k, rfl, ⟨by omega⟩, HKB, by repeat (first | exact Drawn0.refl _ | apply Drawn0.step)⟩
       case measure => simp [intOf]
      ·have hg1 : decide (c < out.getD k 0) = false := decide_eq_false hgt
       have HZ : Aside0 (kAt out c out.length = k + 1) := ⟨by rw [← HKA.out, kAt, if_neg hgt]⟩
       clear hgt
       generalize out.getD k 0 = y at *
       go_wp2
       repeat (go_quiet (fail); try go_wp2)
       go_meet
       case rel => exact ⟨by rw [HZ.out] <;> rfl, by repeat (first | exact Drawn0.refl _ | apply Drawn0.step)⟩
   case rest =>
    obtain ⟨rfl, ⟨n, rfl⟩⟩ := hcut
    have hK := kAt_le out c out.length
    have IN : Aside0 (insF out c = out.take (kAt out c out.length) ++ c :: out.drop (kAt out c out.length)) := ⟨rfl⟩
    generalize kAt out c out.length = K at *
    have hk0 : (0 : Int) ≤ (K : Int) := by omega
    have hk1 : (K : Int) ≤ (cap : Int) := by have := HCAP.out; omega
    have hk2 : (K : Int) ≤ (out.length : Int) := by omega
    obtain ⟨i0, hi0, hsz0⟩ : ∃ i0, Try.prog.info? 3 = some i0 ∧ i0.size = 1 := by
     obtain ⟨i0, hi0, hz⟩ := Option.map_eq_some_iff.1 info3
     exact ⟨i0, hi0, congrArg (fun p => p.2.1) hz⟩
    obtain ⟨A2, hA2, hA2'⟩ := cut_from (P := Try.prog) 22 3 Try.underlying22 hi0 hsz0 bg out.length cap K hK
    have HA2 := QO hA2'
    have hA3 : ∀ W : World, (Instr.slice 22 (.slice (some ⟨bg, 0, none⟩) out.length cap) none (some (.int .i64 (K : Int))) none).run Try.prog W = .ok (.slice (some ⟨bg, 0, none⟩) K cap) W := by
     intro W
     have hel : Try.prog.elem 22 = 3 := by simp [Program.elem, Try.underlying22]
     have hu : Try.prog.underlying 22 = some (.slice (Try.prog.elem 22)) := by rw [hel]; exact Try.underlying22
     rw [run_slice_h W 22 (some ⟨bg, 0, none⟩) out.length cap hu .i64 (K : Int) hk0 hk1, hel]
     simp [sizeOf, typeInfo, hi0, hsz0, sliced, Result.andThen, Addr.add]
    clear hA2' hi0 hsz0
    go_wp2
    refine start_ (n := 16) (S := fun w' => w'.cell? (ad.add i) = some (.int .i64 c)) (ds := []) #[false, false, false, false, false, false, false, false, false, false, false, false, false, false, false, false] (by kernel_rfl) rfl rfl hx (fun hHeld => ?_)
    refine QH (i := 1) (N := some 32) (v := ?_) (a' := ?_) #[false, true, false, false, false, false, false, false, false, false, false, false, false, false, false, false] rfl rfl (by kernel_rfl) (fun _ _ _ h => h) (Or.inl ⟨by rfl, ?_⟩) ?_ ?_
    rotate_left
    ·intro w'
     go_simp
     with_reducible rfl
    rotate_left
    ·simp only [Act.put, QL, QM, QN, QD, QF]
     rfl
    refine QH (i := 2) (N := some 33) (v := ?_) (a' := ?_) #[false, true, true, false, false, false, false, false, false, false, false, false, false, false, false, false] rfl rfl (by kernel_rfl) (fun _ _ _ h => h) (Or.inl ⟨by rfl, ?_⟩) ?_ ?_
    rotate_left
    ·intro w'
     go_simp
     with_reducible rfl
    rotate_left
    ·simp only [Act.put, QL, QM, QN, QD, QF]
     rfl
    refine QH (i := 3) (N := some 34) (v := ?_) (a' := ?_) #[false, true, true, true, false, false, false, false, false, false, false, false, false, false, false, false] rfl rfl (by kernel_rfl) (fun _ _ _ h => h) (Or.inl ⟨by rfl, ?_⟩) ?_ ?_
    rotate_left
    ·intro w'
     go_simp
     with_reducible rfl
    rotate_left
    ·simp only [Act.put, QL, QM, QN, QD, QF]
     rfl
    refine QH (i := 5) (N := some 36) (v := ?_) (a' := ?_) #[false, true, true, true, false, true, false, false, false, false, false, false, false, false, false, false] rfl rfl (by kernel_rfl) (fun _ _ _ h => h) (Or.inl ⟨by rfl, ?_⟩) ?_ ?_
    rotate_left
    ·intro w'
     go_simp
     with_reducible rfl
    rotate_left
    ·simp only [Act.put, QL, QM, QN, QD, QF]
     rfl
    refine QH (i := 6) (N := some 37) (v := ?_) (a' := ?_) #[false, true, true, true, false, true, true, false, false, false, false, false, false, false, false, false] rfl rfl (by kernel_rfl) (fun _ _ _ h => h) (Or.inl ⟨by rfl, ?_⟩) ?_ ?_
    rotate_left
    ·intro w'
     go_simp
     with_reducible rfl
    rotate_left
    ·simp only [Act.put, QL, QM, QN, QD, QF]
     rfl
    refine QH (i := 7) (N := some 38) (v := ?_) (a' := ?_) #[false, true, true, true, false, true, true, true, false, false, false, false, false, false, false, false] rfl rfl (by kernel_rfl) (fun _ _ _ h => h) (Or.inl ⟨by rfl, ?_⟩) ?_ ?_
    rotate_left
    ·intro w'
     go_simp
     with_reducible rfl
    rotate_left
    ·simp only [Act.put, QL, QM, QN, QD, QF]
     rfl
    refine take_ (i := 8) (N := some 39) (v := ?_) (a' := ?_) #[false, true, true, true, false, true, true, true, true, false, false, false, false, false, false, false] rfl rfl (by kernel_rfl) (fun _ _ _ h => h) (Or.inl ⟨by rfl, ?_⟩) hHeld ?_ ?_
    rotate_left
    ·rintro w' s0
     go_simp
     with_reducible rfl
    rotate_left
    ·simp only [Act.put, QL, QM, QN, QD, QF]
     rfl
    refine QH (i := 11) (N := some 42) (v := ?_) (a' := ?_) #[false, true, true, true, false, true, true, true, true, false, false, true, false, false, false, false] rfl rfl (by kernel_rfl) (fun _ _ _ h => h) (Or.inl ⟨by rfl, ?_⟩) ?_ ?_
    rotate_left
    ·intro w'
     go_simp
     with_reducible rfl
    rotate_left
    ·simp only [Act.put, QL, QM, QN, QD, QF]
     rfl
    refine QH (i := 12) (N := some 43) (v := ?_) (a' := ?_) #[false, true, true, true, false, true, true, true, true, false, false, true, true, false, false, false] rfl rfl (by kernel_rfl) (fun _ _ _ h => h) (Or.inl ⟨by rfl, ?_⟩) ?_ ?_
    rotate_left
    ·intro w'
     go_simp
     with_reducible rfl
    rotate_left
    ·simp only [Act.put, QL, QM, QN, QD, QF]
     rfl
    refine QH (i := 13) (N := some 44) (v := ?_) (a' := ?_) #[false, true, true, true, false, true, true, true, true, false, false, true, true, true, false, false] rfl rfl (by kernel_rfl) (fun _ _ _ h => h) (Or.inl ⟨by rfl, ?_⟩) ?_ ?_
    rotate_left
    ·intro w'
     go_simp
     with_reducible rfl
    rotate_left
    ·simp only [Act.put, QL, QM, QN, QD, QF]
     rfl
    have HW : Aside0 (OwnI (wo.drewN n).drew w.heap.size (.slice (some ⟨bg, 0, none⟩) out.length cap) out) := ⟨HC.out⟩
    have HBW := QO (below_drew (QB HB.out n))
    have HX := QO hHeld
    clear HC HB hx hA2 hA3 hHeld
    generalize (wo.drewN n).drew = W at *
    have HADW : Aside0 ((ad.add i).block < W.heap.size) := ⟨World.block_lt_of_cell? W _ HX.out⟩
    have CT : Aside0 (Kd.C (Kd.int .i64) W (some ⟨bg, 0, none⟩) K (out.take K)) := ⟨by
     have h := Kd.R_reads' (Kd.R_take (m := K) HW.out.row hK)
     have h2 := h.2.2
     rwa [← h.1] at h2⟩
    have CD : Aside0 (Kd.C (Kd.int .i64) W A2 (out.length - K) (out.drop K)) := ⟨by
     have h := C_of_cells (w := W) (A := A2) (xs := out.drop K) (by simp; omega) (fun hp => ⟨bg, K, HA2.out (by have := HCAP.out; simp at hp; omega), fun j hj => by
      have := HW.out.cell (K + j) (by simp at hj; omega)
      rw [this]
      simp [List.getD_eq_getElem?_getD]⟩)
     rwa [List.length_drop] at h⟩
    have HB0 : Aside0 (Below W.heap.size W W) := ⟨Below.refl _ _⟩
    refine join_ (σ := Value × Value × Value × Value) 2 #[true, true, true, true, true, true, true, true, true, true, true, true, true, true, false, false] (fun s => [(31, s.1), (35, s.2.1), (40, s.2.2.1), (41, s.2.2.2)]) (fun s w' => w'.cell? (ad.add i) = some (.int .i64 c) ∧ (Kd.int .i64).R 3 w' W.heap.size (fun _ => True) s.2.2.2 (out.take K ++ [c]) ∧ Below W.heap.size W w') ?_ ?_
    rotate_left
    ·intro hJ
     refine two_ (i := 0) (j := 9) (Ni := some 31) (Nj := some 40) #[true, true, true, true, false, true, true, true, true, false, false, true, true, true, false, false] #[false, true, true, true, false, true, true, true, true, true, false, true, true, true, false, false] rfl rfl rfl rfl (by kernel_rfl) (by decide) (by decide) (fun Kc hKc => ?_) (fun Kc hKc => ?_)
     ·skip
      refine Kd.R_lit_step (Kd.int .i64) (w0 := W) W.heap.size 3 (by rfl) rfl (xs := ([] : List Int)) (inner := []) (ok := fun _ => True) (okp := fun _ => True) (by first | (go_simp; done) | (go_simp; rfl)) (Reps.none _ _) (fun _ h => h) trivial HB0.out (QJ HB0.out) (by simp) ?_
      intro v31 W1 h31 hb hg hn
      have Z31 := QO (Kd.R_lt h31)
      have N31 := QO hn
      have HB1 := QO hb
      have H31 := QO h31
      clear h31
      refine hKc.out _ _ ((HB1.out.cell (p := ad.add i) HADW.out).trans HX.out) (fun hHeld => ?_)
      clear hKc Kc hHeld hb hg hn
      refine norm_ (a' := ?_) ?_ ?_
      rotate_left
      ·show Act.put _ (some 31) _ = _
       simp only [Act.put, QL, QM, QN, QD, QF]
       rfl
      refine two_ (i := 4) (j := 9) (Ni := some 35) (Nj := some 40) #[true, true, true, true, true, true, true, true, true, false, false, true, true, true, false, false] #[true, true, true, true, false, true, true, true, true, true, false, true, true, true, false, false] rfl rfl rfl rfl (by kernel_rfl) (by decide) (by decide) (fun Kc hKc => ?_) (fun Kc hKc => ?_)
      ·skip
       refine Kd.R_append_rows_step (Kd.int .i64) (w0 := W) W.heap.size (by rfl) (.tmp 31) (.tmp 34) 22 3 (.int .i64 0) 8 rfl Try.underlying22 info3 rfl (by decide) (by decide) v31 [] (out.take K) (some ⟨bg, 0, none⟩) K cap (fun _ => True) (fun _ => False) rfl rfl H31.out (Kd.C_below CT.out HB1.out) (fun _ _ h => h) (fun _ h => h.elim) (fun _ _ => trivial) HB1.out (QJ HB1.out) (by have := HO.out; have := HL.out; simp only [List.length_nil]; omega) ?_
       intro v35 W2 h35 hb hg hn
       have HB2 := QO hb
       have H35 := QO h35
       clear h35
       refine hKc.out _ _ ((HB2.out.cell (p := ad.add i) HADW.out).trans HX.out) (fun hHeld => ?_)
       clear hKc Kc hHeld hb hg hn
       refine norm_ (a' := ?_) ?_ ?_
       rotate_left
       ·show Act.put _ (some 35) _ = _
        simp only [Act.put, QL, QM, QN, QD, QF]
        rfl
       refine one_ (i := 9) (N := some 40) #[true, true, true, true, true, true, true, true, true, true, false, true, true, true, false, false] rfl rfl (by kernel_rfl) (by decide) (fun Kc hKc => ?_)
       refine Kd.R_lit_step (Kd.int .i64) (w0 := W) W.heap.size 3 (by rfl) rfl (xs := [c]) (inner := [.int .i64 c]) (ok := fun _ => True) (okp := fun _ => True) (by first | (go_simp; done) | (go_simp; rfl)) (Reps.snoc (Reps.none _ _) rfl rfl) (fun _ h => h) trivial HB2.out (QJ HB2.out) (by simp) ?_
       intro v40 W3 h40 hb hg hn
       obtain ⟨A40, c40, rfl⟩ := Kd.R_slice h40
       have Z40 := QO (Kd.R_lt h40)
       have N40 := QO hn
       have HB3 := QO hb
       have nH35 := QO (own_grown H35.out hg (by simp))
       clear H35
       have H35 := nH35
       clear nH35
       have H40 := QO h40
       clear h40
       refine hKc.out _ _ ((HB3.out.cell (p := ad.add i) HADW.out).trans HX.out) (fun hHeld => ?_)
       clear hKc Kc hHeld hb hg hn
       refine norm_ (a' := ?_) ?_ ?_
       rotate_left
       ·show Act.put _ (some 40) _ = _
        simp only [Act.put, QL, QM, QN, QD, QF]
        rfl
       refine one_ (i := 10) (N := some 41) #[true, true, true, true, true, true, true, true, true, true, true, true, true, true, false, false] rfl rfl (by kernel_rfl) (by decide) (fun Kc hKc => ?_)
       refine Kd.R_append_rows_step (Kd.int .i64) (w0 := W) W.heap.size (by rfl) (.tmp 35) (.tmp 40) 22 3 (.int .i64 0) 8 rfl Try.underlying22 info3 rfl (by decide) (by decide) v35 (out.take K) [c] A40 [c].length c40 (fun _ => True) (fun _ => False) rfl rfl H35.out (Kd.R_reads' H40.out).2.2 (fun _ _ h => h) (fun _ h => h.elim) (fun _ _ => trivial) HB3.out (QJ HB3.out) (by have := HO.out; have := HL.out; simp only [List.length_take, List.length_cons, List.length_nil]; omega) ?_
       intro v41 W4 h41 hb hg hn
       have HB4 := QO hb
       refine hKc.out _ _ ((HB4.out.cell (p := ad.add i) HADW.out).trans HX.out) (fun hHeld => ?_)
       clear hKc Kc hHeld hb hg hn
       refine norm_ (a' := ?_) ?_ ?_
       rotate_left
       ·show Act.put _ (some 41) _ = _
        simp only [Act.put, QL, QM, QN, QD, QF]
        rfl
       exact norm_ (by simp only [putAll, Act.put, QL, QM, QN]) (hJ (v31, v35, .slice A40 [c].length c40, v41) _ ⟨((HB4.out.cell (p := ad.add i) HADW.out).trans HX.out), h41, HB4.out⟩)
      ·skip
       refine Kd.R_lit_step (Kd.int .i64) (w0 := W) W.heap.size 3 (by rfl) rfl (xs := [c]) (inner := [.int .i64 c]) (ok := fun _ => True) (okp := fun _ => True) (by first | (go_simp; done) | (go_simp; rfl)) (Reps.snoc (Reps.none _ _) rfl rfl) (fun _ h => h) trivial HB1.out (QJ HB1.out) (by simp) ?_
       intro v40 W2 h40 hb hg hn
       obtain ⟨A40, c40, rfl⟩ := Kd.R_slice h40
       have Z40 := QO (Kd.R_lt h40)
       have N40 := QO hn
       have HB2 := QO hb
       have nH31 := QO (own_grown H31.out hg (by simp))
       clear H31
       have H31 := nH31
       clear nH31
       have H40 := QO h40
       clear h40
       refine hKc.out _ _ ((HB2.out.cell (p := ad.add i) HADW.out).trans HX.out) (fun hHeld => ?_)
       clear hKc Kc hHeld hb hg hn
       refine norm_ (a' := ?_) ?_ ?_
       rotate_left
       ·show Act.put _ (some 40) _ = _
        simp only [Act.put, QL, QM, QN, QD, QF]
        rfl
       refine one_ (i := 4) (N := some 35) #[true, true, true, true, true, true, true, true, true, true, false, true, true, true, false, false] rfl rfl (by kernel_rfl) (by decide) (fun Kc hKc => ?_)
       refine Kd.R_append_rows_step (Kd.int .i64) (w0 := W) W.heap.size (by rfl) (.tmp 31) (.tmp 34) 22 3 (.int .i64 0) 8 rfl Try.underlying22 info3 rfl (by decide) (by decide) v31 [] (out.take K) (some ⟨bg, 0, none⟩) K cap (fun _ => True) (fun _ => False) rfl rfl H31.out (Kd.C_below CT.out HB2.out) (fun _ _ h => h) (fun _ h => h.elim) (fun _ _ => trivial) HB2.out (QJ HB2.out) (by have := HO.out; have := HL.out; simp only [List.length_nil]; omega) ?_
       intro v35 W3 h35 hb hg hn
       have HB3 := QO hb
       have nH40 := QO (own_grown H40.out hg (.inr (by obtain ⟨b, e1, e2⟩ := N40.out; intro e; rw [e1] at e; have := Z31.out b e.symm; omega)))
       clear H40
       have H40 := nH40
       clear nH40
       have H35 := QO h35
       clear h35
       refine hKc.out _ _ ((HB3.out.cell (p := ad.add i) HADW.out).trans HX.out) (fun hHeld => ?_)
       clear hKc Kc hHeld hb hg hn
       refine norm_ (a' := ?_) ?_ ?_
       rotate_left
       ·show Act.put _ (some 35) _ = _
        simp only [Act.put, QL, QM, QN, QD, QF]
        rfl
       refine one_ (i := 10) (N := some 41) #[true, true, true, true, true, true, true, true, true, true, true, true, true, true, false, false] rfl rfl (by kernel_rfl) (by decide) (fun Kc hKc => ?_)
       refine Kd.R_append_rows_step (Kd.int .i64) (w0 := W) W.heap.size (by rfl) (.tmp 35) (.tmp 40) 22 3 (.int .i64 0) 8 rfl Try.underlying22 info3 rfl (by decide) (by decide) v35 (out.take K) [c] A40 [c].length c40 (fun _ => True) (fun _ => False) rfl rfl H35.out (Kd.R_reads' H40.out).2.2 (fun _ _ h => h) (fun _ h => h.elim) (fun _ _ => trivial) HB3.out (QJ HB3.out) (by have := HO.out; have := HL.out; simp only [List.length_take, List.length_cons, List.length_nil]; omega) ?_
       intro v41 W4 h41 hb hg hn
       have HB4 := QO hb
       refine hKc.out _ _ ((HB4.out.cell (p := ad.add i) HADW.out).trans HX.out) (fun hHeld => ?_)
       clear hKc Kc hHeld hb hg hn
       refine norm_ (a' := ?_) ?_ ?_
       rotate_left
       ·show Act.put _ (some 41) _ = _
        simp only [Act.put, QL, QM, QN, QD, QF]
        rfl
       exact norm_ (by simp only [putAll, Act.put, QL, QM, QN]) (hJ (v31, v35, .slice A40 [c].length c40, v41) _ ⟨((HB4.out.cell (p := ad.add i) HADW.out).trans HX.out), h41, HB4.out⟩)
     ·skip
      refine Kd.R_lit_step (Kd.int .i64) (w0 := W) W.heap.size 3 (by rfl) rfl (xs := [c]) (inner := [.int .i64 c]) (ok := fun _ => True) (okp := fun _ => True) (by first | (go_simp; done) | (go_simp; rfl)) (Reps.snoc (Reps.none _ _) rfl rfl) (fun _ h => h) trivial HB0.out (QJ HB0.out) (by simp) ?_
      intro v40 W1 h40 hb hg hn
      obtain ⟨A40, c40, rfl⟩ := Kd.R_slice h40
      have Z40 := QO (Kd.R_lt h40)
      have N40 := QO hn
      have HB1 := QO hb
      have H40 := QO h40
      clear h40
      refine hKc.out _ _ ((HB1.out.cell (p := ad.add i) HADW.out).trans HX.out) (fun hHeld => ?_)
      clear hKc Kc hHeld hb hg hn
      refine norm_ (a' := ?_) ?_ ?_
      rotate_left
      ·show Act.put _ (some 40) _ = _
       simp only [Act.put, QL, QM, QN, QD, QF]
       rfl
      refine one_ (i := 0) (N := some 31) #[true, true, true, true, false, true, true, true, true, true, false, true, true, true, false, false] rfl rfl (by kernel_rfl) (by decide) (fun Kc hKc => ?_)
      refine Kd.R_lit_step (Kd.int .i64) (w0 := W) W.heap.size 3 (by rfl) rfl (xs := ([] : List Int)) (inner := []) (ok := fun _ => True) (okp := fun _ => True) (by first | (go_simp; done) | (go_simp; rfl)) (Reps.none _ _) (fun _ h => h) trivial HB1.out (QJ HB1.out) (by simp) ?_
      intro v31 W2 h31 hb hg hn
      have Z31 := QO (Kd.R_lt h31)
      have N31 := QO hn
      have HB2 := QO hb
      have nH40 := QO (own_grown H40.out hg (by simp))
      clear H40
      have H40 := nH40
      clear nH40
      have H31 := QO h31
      clear h31
      refine hKc.out _ _ ((HB2.out.cell (p := ad.add i) HADW.out).trans HX.out) (fun hHeld => ?_)
      clear hKc Kc hHeld hb hg hn
      refine norm_ (a' := ?_) ?_ ?_
      rotate_left
      ·show Act.put _ (some 31) _ = _
       simp only [Act.put, QL, QM, QN, QD, QF]
       rfl
      refine one_ (i := 4) (N := some 35) #[true, true, true, true, true, true, true, true, true, true, false, true, true, true, false, false] rfl rfl (by kernel_rfl) (by decide) (fun Kc hKc => ?_)
      refine Kd.R_append_rows_step (Kd.int .i64) (w0 := W) W.heap.size (by rfl) (.tmp 31) (.tmp 34) 22 3 (.int .i64 0) 8 rfl Try.underlying22 info3 rfl (by decide) (by decide) v31 [] (out.take K) (some ⟨bg, 0, none⟩) K cap (fun _ => True) (fun _ => False) rfl rfl H31.out (Kd.C_below CT.out HB2.out) (fun _ _ h => h) (fun _ h => h.elim) (fun _ _ => trivial) HB2.out (QJ HB2.out) (by have := HO.out; have := HL.out; simp only [List.length_nil]; omega) ?_
      intro v35 W3 h35 hb hg hn
      have HB3 := QO hb
      have nH40 := QO (own_grown H40.out hg (.inr (by obtain ⟨b, e1, e2⟩ := N31.out; intro e; rw [e1] at e; have := Z40.out b e; omega)))
      clear H40
      have H40 := nH40
      clear nH40
      have H35 := QO h35
      clear h35
      refine hKc.out _ _ ((HB3.out.cell (p := ad.add i) HADW.out).trans HX.out) (fun hHeld => ?_)
      clear hKc Kc hHeld hb hg hn
      refine norm_ (a' := ?_) ?_ ?_
      rotate_left
      ·show Act.put _ (some 35) _ = _
       simp only [Act.put, QL, QM, QN, QD, QF]
       rfl
      refine one_ (i := 10) (N := some 41) #[true, true, true, true, true, true, true, true, true, true, true, true, true, true, false, false] rfl rfl (by kernel_rfl) (by decide) (fun Kc hKc => ?_)
      refine Kd.R_append_rows_step (Kd.int .i64) (w0 := W) W.heap.size (by rfl) (.tmp 35) (.tmp 40) 22 3 (.int .i64 0) 8 rfl Try.underlying22 info3 rfl (by decide) (by decide) v35 (out.take K) [c] A40 [c].length c40 (fun _ => True) (fun _ => False) rfl rfl H35.out (Kd.R_reads' H40.out).2.2 (fun _ _ h => h) (fun _ h => h.elim) (fun _ _ => trivial) HB3.out (QJ HB3.out) (by have := HO.out; have := HL.out; simp only [List.length_take, List.length_cons, List.length_nil]; omega) ?_
      intro v41 W4 h41 hb hg hn
      have HB4 := QO hb
      refine hKc.out _ _ ((HB4.out.cell (p := ad.add i) HADW.out).trans HX.out) (fun hHeld => ?_)
      clear hKc Kc hHeld hb hg hn
      refine norm_ (a' := ?_) ?_ ?_
      rotate_left
      ·show Act.put _ (some 41) _ = _
       simp only [Act.put, QL, QM, QN, QD, QF]
       rfl
      exact norm_ (by simp only [putAll, Act.put, QL, QM, QN]) (hJ (v31, v35, .slice A40 [c].length c40, v41) _ ⟨((HB4.out.cell (p := ad.add i) HADW.out).trans HX.out), h41, HB4.out⟩)
    rintro ⟨v31, v35, v40, v41⟩ W4 ⟨hX4, h41, hb4⟩
    have H41 := QO h41
    have HB4 := QO hb4
    clear h41 hb4
    refine norm_ (a' := ?_) ?_ ?_
    rotate_left
    ·simp only [putAll, Act.put, QL, QM, QN]
     rfl
    refine one_ (i := 14) (N := some 45) #[true, true, true, true, true, true, true, true, true, true, true, true, true, true, true, false] rfl rfl (by kernel_rfl) (by decide) (fun Kc hKc => ?_)
    refine Kd.R_append_rows_step (Kd.int .i64) (w0 := W) W.heap.size (by rfl) (.tmp 41) (.tmp 44) 22 3 (.int .i64 0) 8 rfl Try.underlying22 info3 rfl (by decide) (by decide) v41 (out.take K ++ [c]) (out.drop K) A2 (out.length - K) (cap - K) (fun _ => True) (fun _ => False) rfl rfl H41.out (Kd.C_below CD.out HB4.out) (fun _ _ h => h) (fun _ h => h.elim) (fun _ _ => trivial) HB4.out (QJ HB4.out) (by have := HO.out; have := HL.out; simp only [List.length_append, List.length_take, List.length_cons, List.length_nil]; omega) ?_
    intro v45 W5 h45 hb5 hg hn
    have e45 : out.take K ++ [c] ++ out.drop K = insF out c := by rw [IN.out]; simp
    rw [e45] at h45
    have h46 := Kd.R_lower h45 (QJ HBW.out)
    have o45 : OwnI W5 w.heap.size v45 (insF out c) := OwnI.of_own (by have := Kd.own_of_R (enc := Value.int .i64) (h1 := fun _ => rfl) h46; simpa [encs] using this) (by rw [insF_length]; omega)
    have HN := QO o45
    have HB5 := QO hb5
    obtain ⟨g5, cap5, cur5, rfl, _, _, _, _, _, _⟩ := o45
    refine hKc.out _ _ ((hb5.cell (p := ad.add i) HADW.out).trans HX.out) (fun hHeld => ?_)
    clear hKc Kc hHeld hb5 hg hn h45 h46 e45
    refine norm_ (a' := ?_) ?_ ?_
    rotate_left
    ·show Act.put _ (some 45) _ = _
     simp only [Act.put, QL, QM, QN, QD, QF]
     rfl
    refine QH (i := 15) (N := some 3) (v := ?_) (a' := ?_) #[true, true, true, true, true, true, true, true, true, true, true, true, true, true, true, true] rfl rfl (by kernel_rfl) (fun _ _ _ h => h) (Or.inl ⟨by rfl, ?_⟩) ?_ ?_
    rotate_left
    ·intro w'
     go_simp
     with_reducible rfl
    rotate_left
    ·simp only [Act.put, QL, QM, QN, QD, QF]
     rfl
    refine done_ (by kernel_rfl) ?_
    go_wp2
    go_roundg g
    case measure => omega
    case rel => exact ⟨i + 1, insF out c, by go_num, ⟨by have := HI.out; omega⟩, ⟨by rw [insF_length, HO.out]⟩, NXT, HN, ⟨below_then HBW.out (QJ HBW.out) HB5.out⟩⟩

/-! ### spec_SuitOf: function 14 -/
def spec_SuitOf.f (a0 : Int) : Option (Int) := (spec_IsCard.f a0).bind fun t167 => (if t167 = true then (some (wrap64 (Int.tdiv a0 13))) else (some (-1)))
set_option maxHeartbeats 8000000 in
set_option maxRecDepth 100000 in
theorem spec_SuitOf.calls (a0 : Int) (r : Int) (w : World) (h : spec_SuitOf.f a0 = some r) :
  Calls Try.prog 14 #[.int .i64 a0] w fun e w' => e = .returned (.int .i64 r) ∧ Drawn0 w w' := by
 have H : ((spec_IsCard.f a0).bind fun t167 => (if t167 = true then (some (wrap64 (Int.tdiv a0 13))) else (some (-1)))) = some r := h
 clear h
 replace H := QP.mp H
 obtain ⟨t167,A20,H⟩ := H
 have A2 := QO A20
 clear A20
 by_cases c3 : t167 = true
 ·subst c3
  rw [if_pos rfl] at H
  obtain rfl := Option.some.inj H
  go_enter Try.func14,Try.ntmps14
  go_wp2_with (first | ((with_reducible refine gate_callee (f := 29) rfl ?_); refine goesL_ (some 4) rfl rfl Try.func29 (by kernel_rfl) rfl #[.int .i64 a0] rfl (by (try simp only [List.map_toArray,List.map_cons,List.map_nil]); first | done | rfl | (simp only [List.length_drop,List.length_take]; rfl)) ?_; (with_reducible refine (spec_IsCard.calls a0 true _ A2.out).mono ?_); rintro e w' ⟨rfl,⟨nd,rfl⟩⟩; refine ⟨_,rfl,?_⟩))
  go_ret
  exact ⟨by first | rfl | (simp; done) | (simp [*]; done),by repeat (first | exact Drawn0.refl _ | apply Drawn0.step)⟩
 ·replace c3 := Bool.eq_false_iff.mpr c3
  subst c3
  rw [if_neg (show ¬ (false = true) by decide)] at H
  obtain rfl := Option.some.inj H
  go_enter Try.func14,Try.ntmps14
  go_wp2_with (first | ((with_reducible refine gate_callee (f := 29) rfl ?_); refine goesL_ (some 4) rfl rfl Try.func29 (by kernel_rfl) rfl #[.int .i64 a0] rfl (by (try simp only [List.map_toArray,List.map_cons,List.map_nil]); first | done | rfl | (simp only [List.length_drop,List.length_take]; rfl)) ?_; (with_reducible refine (spec_IsCard.calls a0 false _ A2.out).mono ?_); rintro e w' ⟨rfl,⟨nd,rfl⟩⟩; refine ⟨_,rfl,?_⟩))
  go_ret
  exact ⟨by first | rfl | (simp; done) | (simp [*]; done),by repeat (first | exact Drawn0.refl _ | apply Drawn0.step)⟩

/-! ### spec_RankOf: function 39 -/
def spec_RankOf.f (a0 : Int) : Option (Int) := (spec_IsCard.f a0).bind fun t168 => (if t168 = true then (some (Int.tmod a0 13)) else (some (-1)))
set_option maxHeartbeats 8000000 in
set_option maxRecDepth 100000 in
theorem spec_RankOf.calls (a0 : Int) (r : Int) (w : World) (h : spec_RankOf.f a0 = some r) :
  Calls Try.prog 39 #[.int .i64 a0] w fun e w' => e = .returned (.int .i64 r) ∧ Drawn0 w w' := by
 have H : ((spec_IsCard.f a0).bind fun t168 => (if t168 = true then (some (Int.tmod a0 13)) else (some (-1)))) = some r := h
 clear h
 replace H := QP.mp H
 obtain ⟨t168,A20,H⟩ := H
 have A2 := QO A20
 clear A20
 by_cases c3 : t168 = true
 ·subst c3
  rw [if_pos rfl] at H
  obtain rfl := Option.some.inj H
  go_enter Try.func39,Try.ntmps39
  go_wp2_with (first | ((with_reducible refine gate_callee (f := 29) rfl ?_); refine goesL_ (some 4) rfl rfl Try.func29 (by kernel_rfl) rfl #[.int .i64 a0] rfl (by (try simp only [List.map_toArray,List.map_cons,List.map_nil]); first | done | rfl | (simp only [List.length_drop,List.length_take]; rfl)) ?_; (with_reducible refine (spec_IsCard.calls a0 true _ A2.out).mono ?_); rintro e w' ⟨rfl,⟨nd,rfl⟩⟩; refine ⟨_,rfl,?_⟩))
  go_ret
  exact ⟨by first | rfl | (simp; done) | (simp [*]; done),by repeat (first | exact Drawn0.refl _ | apply Drawn0.step)⟩
 ·replace c3 := Bool.eq_false_iff.mpr c3
  subst c3
  rw [if_neg (show ¬ (false = true) by decide)] at H
  obtain rfl := Option.some.inj H
  go_enter Try.func39,Try.ntmps39
  go_wp2_with (first | ((with_reducible refine gate_callee (f := 29) rfl ?_); refine goesL_ (some 4) rfl rfl Try.func29 (by kernel_rfl) rfl #[.int .i64 a0] rfl (by (try simp only [List.map_toArray,List.map_cons,List.map_nil]); first | done | rfl | (simp only [List.length_drop,List.length_take]; rfl)) ?_; (with_reducible refine (spec_IsCard.calls a0 false _ A2.out).mono ?_); rintro e w' ⟨rfl,⟨nd,rfl⟩⟩; refine ⟨_,rfl,?_⟩))
  go_ret
  exact ⟨by first | rfl | (simp; done) | (simp [*]; done),by repeat (first | exact Drawn0.refl _ | apply Drawn0.step)⟩

/-! ### spec_IsRed: function 59 -/
def spec_IsRed.f (a0 : Int) : Option (Bool) := (spec_SuitOf.f a0).bind fun t169 => ((spec_l1In.f t169 1 2).bind fun t170 => (some t170))
set_option maxHeartbeats 8000000 in
set_option maxRecDepth 100000 in
theorem spec_IsRed.calls (a0 : Int) (r : Bool) (w : World) (h : spec_IsRed.f a0 = some r) :
  Calls Try.prog 59 #[.int .i64 a0] w fun e w' => e = .returned (.bool r) ∧ Drawn0 w w' := by
 have H : ((spec_SuitOf.f a0).bind fun t169 => ((spec_l1In.f t169 1 2).bind fun t170 => (some t170))) = some r := h
 clear h
 replace H := QP.mp H
 obtain ⟨t169,A20,H⟩ := H
 have A2 := QO A20
 clear A20
 replace H := QP.mp H
 obtain ⟨t170,A30,H⟩ := H
 have A3 := QO A30
 clear A30
 obtain rfl := Option.some.inj H
 go_enter Try.func59,Try.ntmps59
 go_wp2_with (first | ((with_reducible refine gate_callee (f := 14) rfl ?_); refine goesL_ (some 4) rfl rfl Try.func14 (by kernel_rfl) rfl #[.int .i64 a0] rfl (by (try simp only [List.map_toArray,List.map_cons,List.map_nil]); first | done | rfl | (simp only [List.length_drop,List.length_take]; rfl)) ?_; (with_reducible refine (spec_SuitOf.calls a0 t169 _ A2.out).mono ?_); rintro e w' ⟨rfl,⟨nd,rfl⟩⟩; refine ⟨_,rfl,?_⟩) | ((with_reducible refine gate_callee (f := 36) rfl ?_); refine goesL_ (some 5) rfl rfl Try.func36 (by kernel_rfl) rfl #[.int .i64 t169,.int .i64 1,.int .i64 2] rfl (by (try simp only [List.map_toArray,List.map_cons,List.map_nil]); first | done | rfl | (simp only [List.length_drop,List.length_take]; rfl)) ?_; (with_reducible refine (spec_l1In.calls t169 1 2 t170 _ A3.out).mono ?_); rintro e w' ⟨rfl,⟨nd,rfl⟩⟩; refine ⟨_,rfl,?_⟩))
 go_ret
 exact ⟨by first | rfl | (simp; done) | (simp [*]; done),by repeat (first | exact Drawn0.refl _ | apply Drawn0.step)⟩

/-! ### spec_l8Value: function 51 -/
def spec_l8Value.f (a0 : Int) (a1 : Int) : Option (Bool) := if a0 = 400 then ((spec_IsRed.f a1).bind fun t171 => (some t171)) else (if a0 ≥ 300 then ((spec_RankOf.f a1).bind fun t172 => (some (decide (t172 ≥ (wrap64 (a0 - 300)))))) else (if a0 ≥ 200 then ((spec_RankOf.f a1).bind fun t173 => (some (t173 == (wrap64 (a0 - 200))))) else ((spec_SuitOf.f a1).bind fun t174 => (some (t174 == (wrap64 (a0 - 100)))))))
set_option maxHeartbeats 8000000 in
set_option maxRecDepth 100000 in
theorem spec_l8Value.calls (a0 : Int) (a1 : Int) (r : Bool) (w : World) (h : spec_l8Value.f a0 a1 = some r) :
  Calls Try.prog 51 #[.int .i64 a0,.int .i64 a1] w fun e w' => e = .returned (.bool r) ∧ Drawn0 w w' := by
 have H : (if a0 = 400 then ((spec_IsRed.f a1).bind fun t171 => (some t171)) else (if a0 ≥ 300 then ((spec_RankOf.f a1).bind fun t172 => (some (decide (t172 ≥ (wrap64 (a0 - 300)))))) else (if a0 ≥ 200 then ((spec_RankOf.f a1).bind fun t173 => (some (t173 == (wrap64 (a0 - 200))))) else ((spec_SuitOf.f a1).bind fun t174 => (some (t174 == (wrap64 (a0 - 100)))))))) = some r := h
 clear h
 by_cases c3 : a0 = 400
 ·rw [if_pos c3] at H
  have c3b0 : (a0 == 400) = true := beq_iff_eq.mpr c3
  have c3b1 : (a0 != 400) = false := bne_eq_false_iff_eq.mpr c3
  clear c3
  replace H := QP.mp H
  obtain ⟨t171,A40,H⟩ := H
  have A4 := QO A40
  clear A40
  obtain rfl := Option.some.inj H
  go_enter Try.func51,Try.ntmps51
  go_wp2_with (first | ((with_reducible refine gate_callee (f := 59) rfl ?_); refine goesL_ (some 9) rfl rfl Try.func59 (by kernel_rfl) rfl #[.int .i64 a1] rfl (by (try simp only [List.map_toArray,List.map_cons,List.map_nil]); first | done | rfl | (simp only [List.length_drop,List.length_take]; rfl)) ?_; (with_reducible refine (spec_IsRed.calls a1 t171 _ A4.out).mono ?_); rintro e w' ⟨rfl,⟨nd,rfl⟩⟩; refine ⟨_,rfl,?_⟩))
  go_ret
  exact ⟨by first | rfl | (simp; done) | (simp [*]; done),by repeat (first | exact Drawn0.refl _ | apply Drawn0.step)⟩
 ·rw [if_neg c3] at H
  have c3b0 : (a0 == 400) = false := beq_eq_false_iff_ne.mpr c3
  have c3b1 : (a0 != 400) = true := bne_iff_ne.mpr c3
  by_cases c5 : a0 ≥ 300
  ·rw [if_pos c5] at H
   have c5b0 : decide (300 ≤ a0) = true := decide_eq_true c5
   clear c5
   replace H := QP.mp H
   obtain ⟨t172,A60,H⟩ := H
   have A6 := QO A60
   clear A60
   obtain rfl := Option.some.inj H
   go_enter Try.func51,Try.ntmps51
   go_wp2_with (first | ((with_reducible refine gate_callee (f := 39) rfl ?_); refine goesL_ (some 14) rfl rfl Try.func39 (by kernel_rfl) rfl #[.int .i64 a1] rfl (by (try simp only [List.map_toArray,List.map_cons,List.map_nil]); first | done | rfl | (simp only [List.length_drop,List.length_take]; rfl)) ?_; (with_reducible refine (spec_RankOf.calls a1 t172 _ A6.out).mono ?_); rintro e w' ⟨rfl,⟨nd,rfl⟩⟩; refine ⟨_,rfl,?_⟩))
   go_ret
   exact ⟨by first | rfl | (simp; done) | (simp [*]; done),by repeat (first | exact Drawn0.refl _ | apply Drawn0.step)⟩
  ·rw [if_neg c5] at H
   have c5b0 : decide (300 ≤ a0) = false := decide_eq_false c5
   clear c5
   by_cases c7 : a0 ≥ 200
   ·rw [if_pos c7] at H
    have c7b0 : decide (200 ≤ a0) = true := decide_eq_true c7
    clear c7
    replace H := QP.mp H
    obtain ⟨t173,A80,H⟩ := H
    have A8 := QO A80
    clear A80
    try (obtain rfl := Option.some.inj (A8.out.symm.trans A6.out))
    obtain rfl := Option.some.inj H
    go_enter Try.func51,Try.ntmps51
    go_wp2_with (first | ((with_reducible refine gate_callee (f := 39) rfl ?_); refine goesL_ (some 22) rfl rfl Try.func39 (by kernel_rfl) rfl #[.int .i64 a1] rfl (by (try simp only [List.map_toArray,List.map_cons,List.map_nil]); first | done | rfl | (simp only [List.length_drop,List.length_take]; rfl)) ?_; (with_reducible refine (spec_RankOf.calls a1 t173 _ A8.out).mono ?_); rintro e w' ⟨rfl,⟨nd,rfl⟩⟩; refine ⟨_,rfl,?_⟩))
    go_ret
    exact ⟨by first | rfl | (simp; done) | (simp [*]; done),by repeat (first | exact Drawn0.refl _ | apply Drawn0.step)⟩
   ·rw [if_neg c7] at H
    have c7b0 : decide (200 ≤ a0) = false := decide_eq_false c7
    clear c7
    replace H := QP.mp H
    obtain ⟨t174,A90,H⟩ := H
    have A9 := QO A90
    clear A90
    obtain rfl := Option.some.inj H
    go_enter Try.func51,Try.ntmps51
    go_wp2_with (first | ((with_reducible refine gate_callee (f := 14) rfl ?_); refine goesL_ (some 27) rfl rfl Try.func14 (by kernel_rfl) rfl #[.int .i64 a1] rfl (by (try simp only [List.map_toArray,List.map_cons,List.map_nil]); first | done | rfl | (simp only [List.length_drop,List.length_take]; rfl)) ?_; (with_reducible refine (spec_SuitOf.calls a1 t174 _ A9.out).mono ?_); rintro e w' ⟨rfl,⟨nd,rfl⟩⟩; refine ⟨_,rfl,?_⟩))
    go_ret
    exact ⟨by first | rfl | (simp; done) | (simp [*]; done),by repeat (first | exact Drawn0.refl _ | apply Drawn0.step)⟩

/-! ### spec_Matches: function 40 -/
mutual
def spec_Matches.j0 : Nat → List Int → Int → Bool → Option (Bool)
 | 0,_,_,_ => none
 | k + 1,x0,x1,x15 => if x15 = true then (some false) else (spec_Matches.l0 k x0 x1 (([] : List Bool)) 0)
def spec_Matches.l0 : Nat → List Int → Int → List Bool → Int → Option (Bool)
 | 0,_,_,_,_ => none
 | k + 1,x0,x1,x5,x6 => if x6 < (x0.length : Int) then (if 0 ≤ x6 then (if (rd x0 x6) = (-1) then (if 0 ≤ (wrap64 ((x5.length : Int) - 1)) then (if (wrap64 ((x5.length : Int) - 1)) < (x5.length : Int) then (spec_Matches.l0 k x0 x1 (x5.set ((wrap64 ((x5.length : Int) - 1)) : Int).toNat (!(rdOf false x5 (wrap64 ((x5.length : Int) - 1))))) (wrap64 (x6 + 1))) else (none)) else (none)) else (if (rd x0 x6) = (-2) then (if 0 ≤ (wrap64 ((x5.length : Int) - 2)) then (if (wrap64 ((x5.length : Int) - 2)) < (x5.length : Int) then (if rdOf false x5 (wrap64 ((x5.length : Int) - 2)) = true then (if 0 ≤ (wrap64 ((x5.length : Int) - 1)) then (if (wrap64 ((x5.length : Int) - 1)) < (x5.length : Int) then (if (wrap64 ((x5.length : Int) - 2)) ≤ (x5.length : Int) then ((some (x5.take ((wrap64 ((x5.length : Int) - 2)) : Int).toNat : List Bool)).bind fun y186 => (if y186.length < 140737488355328 then (spec_Matches.l0 k x0 x1 (y186 ++ [rdOf false x5 (wrap64 ((x5.length : Int) - 1))]) (wrap64 (x6 + 1))) else (none))) else (none)) else (none)) else (none)) else (if (wrap64 ((x5.length : Int) - 2)) ≤ (x5.length : Int) then ((some (x5.take ((wrap64 ((x5.length : Int) - 2)) : Int).toNat : List Bool)).bind fun y192 => (if y192.length < 140737488355328 then (spec_Matches.l0 k x0 x1 (y192 ++ [false]) (wrap64 (x6 + 1))) else (none))) else (none))) else (none)) else (none)) else (if (rd x0 x6) = (-3) then (if 0 ≤ (wrap64 ((x5.length : Int) - 2)) then (if (wrap64 ((x5.length : Int) - 2)) < (x5.length : Int) then (if rdOf false x5 (wrap64 ((x5.length : Int) - 2)) = true then (if (wrap64 ((x5.length : Int) - 2)) ≤ (x5.length : Int) then ((some (x5.take ((wrap64 ((x5.length : Int) - 2)) : Int).toNat : List Bool)).bind fun y199 => (if y199.length < 140737488355328 then (spec_Matches.l0 k x0 x1 (y199 ++ [true]) (wrap64 (x6 + 1))) else (none))) else (none)) else (if 0 ≤ (wrap64 ((x5.length : Int) - 1)) then (if (wrap64 ((x5.length : Int) - 1)) < (x5.length : Int) then (if (wrap64 ((x5.length : Int) - 2)) ≤ (x5.length : Int) then ((some (x5.take ((wrap64 ((x5.length : Int) - 2)) : Int).toNat : List Bool)).bind fun y206 => (if y206.length < 140737488355328 then (spec_Matches.l0 k x0 x1 (y206 ++ [rdOf false x5 (wrap64 ((x5.length : Int) - 1))]) (wrap64 (x6 + 1))) else (none))) else (none)) else (none)) else (none))) else (none)) else (none)) else ((spec_l8Value.f (rd x0 x6) x1).bind fun t213 => (if x5.length < 140737488355328 then (spec_Matches.l0 k x0 x1 (x5 ++ [t213]) (wrap64 (x6 + 1))) else (none)))))) else (none)) else (if 0 < (x5.length : Int) then (some (rdOf false x5 0)) else (none))
end
def spec_Matches.f (k : Nat) (l0 : List Int) (a1 : Int) : Option (Bool) := (spec_IsPattern.f k l0).bind fun t175 => (if t175 = true then ((spec_IsCard.f a1).bind fun t176 => (spec_Matches.j0 k l0 a1 (!t176))) else (spec_Matches.j0 k l0 a1 true))
theorem spec_Matches.mono_l : ∀ k, (∀ y0 y1 y2, LeO (spec_Matches.j0 k y0 y1 y2) (spec_Matches.j0 (k + 1) y0 y1 y2)) ∧ (∀ y0 y1 y2 y3, LeO (spec_Matches.l0 k y0 y1 y2 y3) (spec_Matches.l0 (k + 1) y0 y1 y2 y3))
 | 0 => ⟨fun _ _ _ r h => by simp [spec_Matches.j0] at h,fun _ _ _ _ r h => by simp [spec_Matches.l0] at h⟩
 | k + 1 => by
  obtain ⟨ih0,ih1⟩ := spec_Matches.mono_l k
  refine ⟨?_,?_⟩
  ·intro y0 y1 y2
   unfold spec_Matches.j0
   repeat' first
   | (with_reducible exact ih0 _ _ _)
   | (with_reducible exact ih1 _ _ _ _)
   | (with_reducible exact spec_IsPattern.mono _ _)
   | (with_reducible exact LeO.refl _)
   | (with_reducible exact LeO.none _)
   | (with_reducible refine LeO.ite ?_ ?_)
   | (with_reducible refine LeO.bind ?_ (fun _ => ?_))
   | exact ih0 _ _ _
   | exact ih1 _ _ _ _
   | exact spec_IsPattern.mono _ _
   | exact LeO.none _
   | refine LeO.ite ?_ ?_
   | refine LeO.bind ?_ (fun _ => ?_)
  ·intro y0 y1 y2 y3
   unfold spec_Matches.l0
   repeat' first
   | (with_reducible exact ih0 _ _ _)
   | (with_reducible exact ih1 _ _ _ _)
   | (with_reducible exact spec_IsPattern.mono _ _)
   | (with_reducible exact LeO.refl _)
   | (with_reducible exact LeO.none _)
   | (with_reducible refine LeO.ite ?_ ?_)
   | (with_reducible refine LeO.bind ?_ (fun _ => ?_))
   | exact ih0 _ _ _
   | exact ih1 _ _ _ _
   | exact spec_IsPattern.mono _ _
   | exact LeO.none _
   | refine LeO.ite ?_ ?_
   | refine LeO.bind ?_ (fun _ => ?_)
theorem spec_Matches.mono : ∀ a0 a1 k, LeO (spec_Matches.f k a0 a1) (spec_Matches.f (k + 1) a0 a1) := by
 intro a0 a1 k
 obtain ⟨ih0,ih1⟩ := spec_Matches.mono_l k
 unfold spec_Matches.f
 repeat' first
   | (with_reducible exact ih0 _ _ _)
   | (with_reducible exact ih1 _ _ _ _)
   | (with_reducible exact spec_IsPattern.mono _ _)
   | (with_reducible exact LeO.refl _)
   | (with_reducible exact LeO.none _)
   | (with_reducible refine LeO.ite ?_ ?_)
   | (with_reducible refine LeO.bind ?_ (fun _ => ?_))
   | exact ih0 _ _ _
   | exact ih1 _ _ _ _
   | exact spec_IsPattern.mono _ _
   | exact LeO.none _
   | refine LeO.ite ?_ ?_
   | refine LeO.bind ?_ (fun _ => ?_)
def spec_Matches.T13 : Bool × List (List Nat × List Nat) := (true, [([], []), ([], []), ([1], [1]), ([0, 2], [0, 2]), ([], []), ([], []), ([5], [5]), ([4, 6], [4, 6]), ([7], [7]), ([8], [8]), ([9], [9]), ([9], [9]), ([11, 9], [9, 11]), ([10, 12, 9], [9, 10, 12]), ([13, 9], [9, 13]), ([9, 14], [9, 14]), ([15], [15]), ([3, 16, 9], [3, 16]), ([17, 17, 0, 1, 2, 3, 4, 5, 6, 7, 8, 9, 10, 11, 12, 13, 14, 15, 16, 17], [0, 4, 10, 17])])
def spec_Matches.B13 : List Nat := [0, 0, 2, 7, 0, 0, 32, 112, 240, 496, 1008, 1008, 3056, 8176, 16368, 32752, 65520, 131071, 262143]
theorem spec_Matches.tab13 : rtab .any (opsOf Try.f40 13) = spec_Matches.T13 := by kernel_rfl
theorem spec_Matches.bits13 : waitsOk spec_Matches.T13.2 spec_Matches.B13 = true := by kernel_rfl
def spec_Matches.T15 : Bool × List (List Nat × List Nat) := (true, [([], []), ([], []), ([1], [1]), ([0, 2], [0, 2]), ([], []), ([], []), ([5], [5]), ([4, 6], [4, 6]), ([7], [7]), ([8], [8]), ([9], [9]), ([9], [9]), ([11, 9], [9, 11]), ([10, 12, 9], [9, 10, 12]), ([13, 9], [9, 13]), ([9, 14], [9, 14]), ([15], [15]), ([3, 16, 9], [3, 16]), ([17, 17, 0, 1, 2, 3, 4, 5, 6, 7, 8, 9, 10, 11, 12, 13, 14, 15, 16, 17], [0, 4, 10, 17])])
def spec_Matches.B15 : List Nat := [0, 0, 2, 7, 0, 0, 32, 112, 240, 496, 1008, 1008, 3056, 8176, 16368, 32752, 65520, 131071, 262143]
theorem spec_Matches.tab15 : rtab .any (opsOf Try.f40 15) = spec_Matches.T15 := by kernel_rfl
theorem spec_Matches.bits15 : waitsOk spec_Matches.T15.2 spec_Matches.B15 = true := by kernel_rfl
set_option maxHeartbeats 8000000 in
set_option maxRecDepth 100000 in
theorem spec_Matches.calls (k : Nat) (A0 : Option Addr) (c0 : Nat) (l0 : List Int) (a1 : Int) (r : Bool) (w : World) (hr0 : Kd.C (Kd.int .i64) w A0 l0.length l0) (hc0 : l0.length ≤ c0) (h : spec_Matches.f k l0 a1 = some r) :
  Calls Try.prog 40 #[.slice A0 l0.length c0,.int .i64 a1] w fun e w' => e = .returned (.bool r) ∧ Below w.heap.size w w' := by
 have HR0 := QO hr0
 have HC0 := QO hc0
 clear hr0 hc0
 have HB := QO (Below.refl w.heap.size w)
 have H : ((spec_IsPattern.f k l0).bind fun t175 => (if t175 = true then ((spec_IsCard.f a1).bind fun t176 => (spec_Matches.j0 k l0 a1 (!t176))) else (spec_Matches.j0 k l0 a1 true))) = some r := h
 clear h
 have HC3 := QO H
 clear H
 go_enter Try.func40,Try.ntmps40
 go_upto_region 1 with (fail)
 go_cut [15] (fun v15 wc => ∃ (kq : Nat) (x15_2 : Bool),v15 = .bool x15_2 ∧ Aside0 (spec_Matches.j0 kq l0 a1 x15_2 = some r) ∧ Aside0 (kq ≤ k) ∧ Aside0 (Below w.heap.size w wc))
 case first =>
  have H := HC3.out
  clear HC3
  replace H := QP.mp H
  obtain ⟨t175,A40,H⟩ := H
  have A4 := QO A40
  clear A40
  by_cases c5 : t175 = true
  ·subst c5
   rw [if_pos rfl] at H
   replace H := QP.mp H
   obtain ⟨t176,A60,H⟩ := H
   have A6 := QO A60
   clear A60
   have H' := QO H
   clear H
   go_wp2_with (first | ((with_reducible refine gate_callee (f := 50) rfl ?_); refine goesL_ (some 9) rfl rfl Try.func50 (by kernel_rfl) rfl #[.slice A0 l0.length c0] rfl (by (try simp only [List.map_toArray,List.map_cons,List.map_nil]); first | done | rfl | (simp only [List.length_drop,List.length_take]; rfl)) ?_; (with_reducible refine (spec_IsPattern.calls k _ _ l0 true _ ?side1 ?side2 A4.out).mono ?_); (case side1 => repeat (first | exact (Kd.C_below HR0.out HB.out) | (with_reducible refine Kd.C_alloc ?_ _) | (with_reducible refine Kd.C_drewN ?_ _) | (with_reducible refine Kd.C_drew ?_))); (case side2 => exact HC0.out); rintro e w' ⟨rfl,⟨nd,rfl⟩⟩; refine ⟨_,rfl,?_⟩) | (go_at_call 29; (with_reducible refine (spec_IsCard.calls a1 t176 _ A6.out).mono ?_); rintro e w' ⟨rfl,⟨nd,rfl⟩⟩))
   go_meet
   case rel => exact ⟨_,(!t176),(by first | rfl | (simp; done) | (simp [*]; done)),H',⟨by first | omega | exact Nat.le_refl _⟩,⟨by repeat (first | (with_reducible first | exact HB.out | apply QE | apply QB | apply QC) | exact HB.out)⟩⟩
  ·replace c5 := Bool.eq_false_iff.mpr c5
   subst c5
   rw [if_neg (show ¬ (false = true) by decide)] at H
   have H' := QO H
   clear H
   go_wp2_with (first | ((with_reducible refine gate_callee (f := 50) rfl ?_); refine goesL_ (some 9) rfl rfl Try.func50 (by kernel_rfl) rfl #[.slice A0 l0.length c0] rfl (by (try simp only [List.map_toArray,List.map_cons,List.map_nil]); first | done | rfl | (simp only [List.length_drop,List.length_take]; rfl)) ?_; (with_reducible refine (spec_IsPattern.calls k _ _ l0 false _ ?side1 ?side2 A4.out).mono ?_); (case side1 => repeat (first | exact (Kd.C_below HR0.out HB.out) | (with_reducible refine Kd.C_alloc ?_ _) | (with_reducible refine Kd.C_drewN ?_ _) | (with_reducible refine Kd.C_drew ?_))); (case side2 => exact HC0.out); rintro e w' ⟨rfl,⟨nd,rfl⟩⟩; refine ⟨_,rfl,?_⟩))
   go_meet
   case rel => exact ⟨_,(true),(by first | rfl | (simp; done) | (simp [*]; done)),H',⟨by first | omega | exact Nat.le_refl _⟩,⟨by repeat (first | (with_reducible first | exact HB.out | apply QE | apply QB | apply QC) | exact HB.out)⟩⟩
 case rest =>
  clear HC3
  try clear p2
  try clear c4
  try clear c5
  obtain ⟨kq,x15_2,rfl,HA,HJ2,HB⟩ := hcut
  cases kq with
  | zero => exact absurd HA.out (by simp [spec_Matches.j0])
  | succ kj2 =>
   have H := HA.out
   clear HA
   simp only [spec_Matches.j0] at H
   by_cases c7 : x15_2 = true
   ·subst c7
    rw [if_pos rfl] at H
    obtain rfl := Option.some.inj H
    go_wp2
    go_ret
    exact ⟨by first | rfl | (simp [errW_none,errW_some] <;> rfl) | (simp [*,errW_none,errW_some] <;> rfl),by repeat (first | (with_reducible first | exact HB.out | apply QE | apply QB | apply QC) | exact HB.out)⟩
   ·replace c7 := Bool.eq_false_iff.mpr c7
    subst c7
    rw [if_neg (show ¬ (false = true) by decide)] at H
    obtain ⟨y177,hy177⟩ : ∃ y_ : List Bool,y_ = (([] : List Bool)) := ⟨_,rfl⟩
    replace H : (spec_Matches.l0 kj2 l0 a1 y177 0) = some r := by first | (rw [hy177]; with_reducible exact H) | (have H2_ := (Option.bind_some _ _).symm.trans H; rw [hy177]; with_reducible exact H2_) | (have H2_ := (Option.bind_some _ _).symm.trans H; with_reducible exact H2_) | with_reducible exact H | (rw [hy177]; exact H) | exact H
    have Ny177 := QO hy177
    clear hy177
    have H' := QO H
    clear H
    go_wp2_with (first | ((with_reducible refine gate_dst (N := 16) rfl ?_); refine Kd.R_lit Kd.bool _ 4 ?hg (N := 16) ?hd (xs := ([] : List Bool)) (inner := []) (ok := fun _ => True) (okp := fun _ => True) ?hr ?hp (fun _ hk => hk) trivial (Below.refl _ _) (Nat.le_refl _) (by simp) ?_; (case hd => rfl); (case hg => rfl); (case hr => first | (go_simp; done) | (go_simp; rfl)); (case hp => exact (Reps.none _ _)); intro v178 w8 ho9 hb hg_ hnew_; clear hg_ hnew_; (first | rw [← Ny177.out] at ho9 | (simp only [Int.reduceToNat] at ho9; rw [← Ny177.out] at ho9)); have n0_ := QO (Kd.R_lower ho9 (QJ (by repeat (first | (with_reducible first | exact HB.out | apply QE | apply QB | apply QC) | exact HB.out)))); have n1_ := QO (below_step (by repeat (first | (with_reducible first | exact HB.out | apply QE | apply QB | apply QC) | exact HB.out)) hb); clear HB; revert n0_ n1_; intro HO179 HB; clear hb ho9))
    go_loopg [5,6] kj2 (fun kq v5 v6 w' => ∃ (x5_2 : List Bool) (x6_2 : Int),v6 = .int .i64 x6_2 ∧ Aside0 (spec_Matches.l0 kq l0 a1 x5_2 x6_2 = some r) ∧ Aside0 (kq ≤ kj2) ∧ Aside0 (Kd.R Kd.bool 4 w' w.heap.size (fun _ => True) v5 x5_2) ∧ Aside0 (Below w.heap.size w w'))
    case atStart => exact ⟨(y177),(0),(by first | rfl | (simp; done) | (simp [*]; done)),H',⟨Nat.le_refl _⟩,⟨by (with_reducible repeat (first | apply Kd.R_alloc | apply Kd.R_drewN | apply Kd.R_drew)); exact HO179.out⟩,⟨by repeat (first | (with_reducible first | exact HB.out | apply QE | apply QB | apply QC) | exact HB.out)⟩⟩
    case round =>
     clear H'
     try clear p2
     try clear c4
     try clear c5
     try clear c7
     try clear p2
     obtain ⟨x5_2,x6_2,rfl,HA,HK2,HO_5,HB⟩ := hrel
     cases gk with
     | zero => exact absurd HA.out (by simp [spec_Matches.l0])
     | succ k2 =>
      have H := HA.out
      clear HA
      simp only [spec_Matches.l0] at H
      by_cases c10 : x6_2 < (l0.length : Int)
      ·rw [if_pos c10] at H
       have c10b0 : decide (x6_2 < (l0.length : Int)) = true := decide_eq_true c10
       clear c10
       by_cases c11 : 0 ≤ x6_2
       ·rw [if_pos c11] at H
        have c11b0 : decide (0 ≤ x6_2) = true := decide_eq_true c11
        clear c11
        by_cases c12 : (rd l0 x6_2) = (-1)
        ·rw [if_pos c12] at H
         have c12b0 : ((rd l0 x6_2) == (-1)) = true := beq_iff_eq.mpr c12
         have c12b1 : ((rd l0 x6_2) != (-1)) = false := bne_eq_false_iff_eq.mpr c12
         clear c12
         obtain ⟨ji13,hji13⟩ : ∃ j_ : Int,(wrap64 ((x5_2.length : Int) - 1)) = j_ := ⟨_,rfl⟩
         replace H : (if 0 ≤ (ji13) then (if (ji13) < (x5_2.length : Int) then (spec_Matches.l0 k2 l0 a1 (x5_2.set ((ji13) : Int).toNat (!(rdOf false x5_2 (ji13)))) (wrap64 (x6_2 + 1))) else (none)) else (none)) = some r := by first | (rw [hji13] at H; exact H) | (simp only [hji13] at H ⊢; exact H)
         have hji13w : (IntKind.i64.wrap ((x5_2.length : Int) - 1)) = ji13 := (QD _).trans hji13
         by_cases c14 : 0 ≤ (ji13)
         ·rw [if_pos c14] at H
          have c14b0 : decide (0 ≤ (ji13)) = true := decide_eq_true c14
          clear c14
          by_cases c15 : (ji13) < (x5_2.length : Int)
          ·rw [if_pos c15] at H
           have c15b0 : decide ((ji13) < (x5_2.length : Int)) = true := decide_eq_true c15
           clear c15
           obtain ⟨y183,hy183⟩ : ∃ y_ : List Bool,y_ = (x5_2.set ((ji13) : Int).toNat (!(rdOf false x5_2 (ji13)))) := ⟨_,rfl⟩
           replace H : (spec_Matches.l0 k2 l0 a1 y183 (wrap64 (x6_2 + 1))) = some r := by first | (rw [hy183]; with_reducible exact H) | (have H2_ := (Option.bind_some _ _).symm.trans H; rw [hy183]; with_reducible exact H2_) | (have H2_ := (Option.bind_some _ _).symm.trans H; with_reducible exact H2_) | with_reducible exact H | (rw [hy183]; exact H) | exact H
           have Ny183 := QO hy183
           clear hy183
           have H' := QO H
           clear H
           obtain ⟨Ao17,co17,eo17⟩ := Kd.R_slice HO_5.out
           subst eo17
           have p181 : 0 ≤ (x6_2 : Int) := of_decide_eq_true (by first | (with_reducible assumption) | assumption)
           have q181 : x6_2 < (l0.length : Int) := of_decide_eq_true (by first | (with_reducible assumption) | assumption)
           obtain ⟨ad181,e181,hx181_0⟩ := Kd.at_int HR0.out x6_2 p181 q181
           cases e181
           replace hx181_0 := (HB.out.cell (World.block_lt_of_cell? w _ hx181_0)).trans hx181_0
           replace p181 := eq_true p181
           replace q181 := eq_true q181
           have p182 : 0 ≤ ((ji13) : Int) := of_decide_eq_true (by first | (with_reducible assumption) | assumption)
           have q182 : (ji13) < (x5_2.length : Int) := of_decide_eq_true (by first | (with_reducible assumption) | assumption)
           obtain ⟨ad182,e182,hx182_0⟩ := Kd.at_bool (Kd.R_reads' HO_5.out).2.2 (ji13) p182 q182
           cases e182
           replace p182 := eq_true p182
           replace q182 := eq_true q182
           have p16 : 0 ≤ ((ji13) : Int) := of_decide_eq_true (by first | (with_reducible assumption) | assumption)
           have q16 : ((ji13) : Int) < ((x5_2.length : Int) : Int) := of_decide_eq_true (by first | (with_reducible assumption) | assumption)
           obtain ⟨go16,co16,eo16,gb16,gl16,cl16,HG16⟩ := Kd.R_form HO_5.out (by omega)
           (first | cases eo16 | (injection eo16 with ea_ en_ ec_; (first | subst ea_ | (injection ea_ with ea_; subst ea_)); subst ec_; clear en_))
           have GB16 := QO gb16
           have GG16 := QO HG16
           clear gb16 gl16 HG16
           (first | simp only [add_plain] at hx182_0 | skip)
           obtain ⟨hx16_0,hf16_0⟩ := Kd.R_celln false HO_5.out ((ji13) : Int) p16 q16
           replace p16 := eq_true p16
           replace q16 := eq_true q16
           have HP18 := Kd.R_putg HO_5.out ((ji13) : Int) (!(rdOf false x5_2 (ji13)))
           go_wp2_with (first | ((with_reducible refine gate_store (t := 4) (p := 49) rfl ?_); refine store_event (t := 4) (p := 49) (v := ?vo_w19) (w1 := (wr.setCell ⟨go16,((ji13) : Int).toNat,none⟩ (.bool (!(rdOf false x5_2 (ji13)))))) ?hg ?ho ?hn ?hr ?_; (case ho => rfl); (case hg => rfl); (case hn => rfl); (case hr => first | (go_simp; done) | (go_simp; rfl)); intro w19 hw; have hg : wr.grownBy w19 (some go16) := (by rw [hw]; exact HP18.2); have hp_ : Kd.R Kd.bool 4 w19 w.heap.size (fun _ => True) (.slice (some ⟨go16,0,none⟩) x5_2.length co17) y183 := (by rw [hw,Ny183.out]; exact HP18.1); clear HP18; have n0_ := QO (hp_); have n1_ := QO ((by rw [hw]; exact below_set (HB.out) GB16.out : Below w.heap.size w w19)); clear HO_5; clear HB; revert n0_ n1_; intro HO_5 HB; clear hg hw hp_))
           go_roundg k2
           case measure => have := HJ2.out; have := HK2.out; omega
           case rel => exact ⟨(y183),(wrap64 (x6_2 + 1)),(by first | rfl | (simp; done) | (simp [*]; done)),H',⟨by have := HJ2.out; have := HK2.out; omega⟩,⟨by (with_reducible repeat (first | apply Kd.R_alloc | apply Kd.R_drewN | apply Kd.R_drew)); exact HO_5.out⟩,⟨by repeat (first | (with_reducible first | exact HB.out | apply QE | apply QB | apply QC) | exact HB.out)⟩⟩
          ·rw [if_neg c15] at H
           exact absurd H (by simp)
         ·rw [if_neg c14] at H
          exact absurd H (by simp)
        ·rw [if_neg c12] at H
         have c12b0 : ((rd l0 x6_2) == (-1)) = false := beq_eq_false_iff_ne.mpr c12
         have c12b1 : ((rd l0 x6_2) != (-1)) = true := bne_iff_ne.mpr c12
         by_cases c20 : (rd l0 x6_2) = (-2)
         ·rw [if_pos c20] at H
          have c20b0 : ((rd l0 x6_2) == (-2)) = true := beq_iff_eq.mpr c20
          have c20b1 : ((rd l0 x6_2) != (-2)) = false := bne_eq_false_iff_eq.mpr c20
          clear c20
          obtain ⟨ji21,hji21⟩ : ∃ j_ : Int,(wrap64 ((x5_2.length : Int) - 2)) = j_ := ⟨_,rfl⟩
          replace H : (if 0 ≤ (ji21) then (if (ji21) < (x5_2.length : Int) then (if rdOf false x5_2 (ji21) = true then (if 0 ≤ (wrap64 ((x5_2.length : Int) - 1)) then (if (wrap64 ((x5_2.length : Int) - 1)) < (x5_2.length : Int) then (if (ji21) ≤ (x5_2.length : Int) then ((some (x5_2.take ((ji21) : Int).toNat : List Bool)).bind fun y186 => (if y186.length < 140737488355328 then (spec_Matches.l0 k2 l0 a1 (y186 ++ [rdOf false x5_2 (wrap64 ((x5_2.length : Int) - 1))]) (wrap64 (x6_2 + 1))) else (none))) else (none)) else (none)) else (none)) else (if (ji21) ≤ (x5_2.length : Int) then ((some (x5_2.take ((ji21) : Int).toNat : List Bool)).bind fun y192 => (if y192.length < 140737488355328 then (spec_Matches.l0 k2 l0 a1 (y192 ++ [false]) (wrap64 (x6_2 + 1))) else (none))) else (none))) else (none)) else (none)) = some r := by first | (rw [hji21] at H; exact H) | (simp only [hji21] at H ⊢; exact H)
          have hji21w : (IntKind.i64.wrap ((x5_2.length : Int) - 2)) = ji21 := (QD _).trans hji21
          by_cases c22 : 0 ≤ (ji21)
          ·rw [if_pos c22] at H
           have c22b0 : decide (0 ≤ (ji21)) = true := decide_eq_true c22
           clear c22
           by_cases c23 : (ji21) < (x5_2.length : Int)
           ·rw [if_pos c23] at H
            have c23b0 : decide ((ji21) < (x5_2.length : Int)) = true := decide_eq_true c23
            clear c23
            obtain ⟨bq24,hbq24⟩ : ∃ b_ : Bool,b_ = (rdOf false x5_2 (ji21)) := ⟨_,rfl⟩
            replace H : (if bq24 = true then (if 0 ≤ (wrap64 ((x5_2.length : Int) - 1)) then (if (wrap64 ((x5_2.length : Int) - 1)) < (x5_2.length : Int) then (if (ji21) ≤ (x5_2.length : Int) then ((some (x5_2.take ((ji21) : Int).toNat : List Bool)).bind fun y186 => (if y186.length < 140737488355328 then (spec_Matches.l0 k2 l0 a1 (y186 ++ [rdOf false x5_2 (wrap64 ((x5_2.length : Int) - 1))]) (wrap64 (x6_2 + 1))) else (none))) else (none)) else (none)) else (none)) else (if (ji21) ≤ (x5_2.length : Int) then ((some (x5_2.take ((ji21) : Int).toNat : List Bool)).bind fun y192 => (if y192.length < 140737488355328 then (spec_Matches.l0 k2 l0 a1 (y192 ++ [false]) (wrap64 (x6_2 + 1))) else (none))) else (none))) = some r := by rw [← hbq24] at H; exact H
            have Nbq24 := QO hbq24
            clear hbq24
            by_cases c25 : bq24 = true
            ·subst c25
             rw [if_pos rfl] at H
             obtain ⟨ji26,hji26⟩ : ∃ j_ : Int,(wrap64 ((x5_2.length : Int) - 1)) = j_ := ⟨_,rfl⟩
             replace H : (if 0 ≤ (ji26) then (if (ji26) < (x5_2.length : Int) then (if (ji21) ≤ (x5_2.length : Int) then ((some (x5_2.take ((ji21) : Int).toNat : List Bool)).bind fun y186 => (if y186.length < 140737488355328 then (spec_Matches.l0 k2 l0 a1 (y186 ++ [rdOf false x5_2 (ji26)]) (wrap64 (x6_2 + 1))) else (none))) else (none)) else (none)) else (none)) = some r := by first | (rw [hji26] at H; exact H) | (simp only [hji26] at H ⊢; exact H)
             have hji26w : (IntKind.i64.wrap ((x5_2.length : Int) - 1)) = ji26 := (QD _).trans hji26
             by_cases c27 : 0 ≤ (ji26)
             ·rw [if_pos c27] at H
              have c27b0 : decide (0 ≤ (ji26)) = true := decide_eq_true c27
              clear c27
              by_cases c28 : (ji26) < (x5_2.length : Int)
              ·rw [if_pos c28] at H
               have c28b0 : decide ((ji26) < (x5_2.length : Int)) = true := decide_eq_true c28
               clear c28
               by_cases c29 : (ji21) ≤ (x5_2.length : Int)
               ·rw [if_pos c29] at H
                have c29b0 := eq_true c29
                have c29b1 : decide ((ji21) ≤ (x5_2.length : Int)) = true := decide_eq_true c29
                clear c29
                obtain ⟨y186,hy186⟩ : ∃ y_ : List Bool,y_ = (x5_2.take ((ji21) : Int).toNat) := ⟨_,rfl⟩
                replace H : (if y186.length < 140737488355328 then (spec_Matches.l0 k2 l0 a1 (y186 ++ [rdOf false x5_2 (ji26)]) (wrap64 (x6_2 + 1))) else (none)) = some r := by first | (rw [hy186]; with_reducible exact H) | (have H2_ := (Option.bind_some _ _).symm.trans H; rw [hy186]; with_reducible exact H2_) | (have H2_ := (Option.bind_some _ _).symm.trans H; with_reducible exact H2_) | with_reducible exact H | (rw [hy186]; exact H) | exact H
                have Ny186 := QO hy186
                clear hy186
                by_cases c30 : y186.length < 140737488355328
                ·rw [if_pos c30] at H
                 have LMc30 := QO c30
                 clear c30
                 obtain ⟨y189,hy189⟩ : ∃ y_ : List Bool,y_ = (y186 ++ [rdOf false x5_2 (ji26)]) := ⟨_,rfl⟩
                 replace H : (spec_Matches.l0 k2 l0 a1 y189 (wrap64 (x6_2 + 1))) = some r := by first | (rw [hy189]; with_reducible exact H) | (have H2_ := (Option.bind_some _ _).symm.trans H; rw [hy189]; with_reducible exact H2_) | (have H2_ := (Option.bind_some _ _).symm.trans H; with_reducible exact H2_) | with_reducible exact H | (rw [hy189]; exact H) | exact H
                 have Ny189 := QO hy189
                 clear hy189
                 have H' := QO H
                 clear H
                 obtain ⟨Ao31,co31,eo31⟩ := Kd.R_slice HO_5.out
                 subst eo31
                 have p181 : 0 ≤ (x6_2 : Int) := of_decide_eq_true (by first | (with_reducible assumption) | assumption)
                 have q181 : x6_2 < (l0.length : Int) := of_decide_eq_true (by first | (with_reducible assumption) | assumption)
                 obtain ⟨ad181,e181,hx181_0⟩ := Kd.at_int HR0.out x6_2 p181 q181
                 cases e181
                 replace hx181_0 := (HB.out.cell (World.block_lt_of_cell? w _ hx181_0)).trans hx181_0
                 replace p181 := eq_true p181
                 replace q181 := eq_true q181
                 try go_wp2
                 have n0_ := QO (Kd.R_drew HO_5.out)
                 have n1_ := QO (QC HB.out)
                 clear HO_5
                 clear HB
                 revert n0_ n1_
                 intro HO_5 HB
                 have p184 : 0 ≤ ((ji21) : Int) := of_decide_eq_true (by first | (with_reducible assumption) | assumption)
                 have q184 : (ji21) < (x5_2.length : Int) := of_decide_eq_true (by first | (with_reducible assumption) | assumption)
                 obtain ⟨ad184,e184,hx184_0⟩ := Kd.at_bool (Kd.R_reads' HO_5.out).2.2 (ji21) p184 q184
                 (try rw [← Nbq24.out] at hx184_0)
                 cases e184
                 replace p184 := eq_true p184
                 replace q184 := eq_true q184
                 have p185 : 0 ≤ ((ji26) : Int) := of_decide_eq_true (by first | (with_reducible assumption) | assumption)
                 have q185 : (ji26) < (x5_2.length : Int) := of_decide_eq_true (by first | (with_reducible assumption) | assumption)
                 obtain ⟨ad185,e185,hx185_0⟩ := Kd.at_bool (Kd.R_reads' HO_5.out).2.2 (ji26) p185 q185
                 (try rw [← Nbq24.out] at hx185_0)
                 obtain rfl : ad184 = ad185 := (by injection e185)
                 replace p185 := eq_true p185
                 replace q185 := eq_true q185
                 have q33 : ((ji21) : Int) ≤ ((x5_2.length : Int) : Int) := of_decide_eq_true (by first | (with_reducible assumption) | assumption)
                 obtain ⟨i033,hi033,_,hsz33,_⟩ := info_parts info4
                 have hcut33 := cut_to (P := Try.prog) 57 4 .i64 Try.underlying57 hi033 (some ad184) x5_2.length co31 (ji21) (of_decide_eq_true (by first | (with_reducible assumption) | assumption)) q33 (Kd.R_reads' HO_5.out).2.1
                 have hr33 := Kd.R_take (m := ((ji21) : Int).toNat) HO_5.out (by omega)
                 have hy33 : y186.length = ((ji21) : Int).toNat := (by rw [Ny186.out,List.length_take]; omega)
                 rw [← Ny186.out] at hr33
                 rw [← hy33] at hr33 hcut33
                 clear hy33 hi033 hsz33 HO_5
                 have HO188 := QO hr33
                 clear hr33
                 replace q33 := eq_true q33
                 refine start_ (n := 19) (S := fun w' => w'.cell? (ad184.add ((ji21)).toNat) = some (.bool true) ∧ w'.cell? (ad184.add ((ji26)).toNat) = some (.bool (rdOf false x5_2 (ji26)))) (ds := [16,17]) (ab 19 0) (by kernel_rfl) rfl rfl ⟨hx184_0,hx185_0⟩ (fun hHeld => ?_); refine with_tabW spec_Matches.tab13 spec_Matches.bits13 (fun HT_ HW_ => ?_)
                 generalize wr.drew = w32 at HB HO188 hx184_0 hx185_0 hHeld ⊢
                 refine QH (i := 0) (N := some 52) (v := ?_) (a' := ?_) (ab 19 1) rfl rfl (QG HT_.out (by kernel_rfl)) (fun _ _ _ h => h) (Or.inl ⟨by rfl,?_⟩) ?_ ?_
                 rotate_left
                 ·intro w'
                  go_simp
                  with_reducible rfl
                 rotate_left
                 ·simp only [Act.put,QL,QM,QN,QD,QF]
                  rfl
                 refine QH (i := 1) (N := some 53) (v := ?_) (a' := ?_) (ab 19 3) rfl rfl (QG HT_.out (by kernel_rfl)) (fun _ _ _ h => h) (Or.inl ⟨by rfl,?_⟩) ?_ ?_
                 rotate_left
                 ·intro w'
                  go_simp
                  with_reducible rfl
                 rotate_left
                 ·simp only [Act.put,QL,QM,QN,QD,QF]
                  rfl
                 refine QH (i := 2) (N := some 54) (v := ?_) (a' := ?_) (ab 19 7) rfl rfl (QG HT_.out (by kernel_rfl)) (fun _ _ _ h => h) (Or.inl ⟨by rfl,?_⟩) ?_ ?_
                 rotate_left
                 ·intro w'
                  go_simp
                  with_reducible rfl
                 rotate_left
                 ·simp only [Act.put,QL,QM,QN,QD,QF]
                  rfl
                 refine QH (i := 4) (N := some 56) (v := ?_) (a' := ?_) (ab 19 23) rfl rfl (QG HT_.out (by kernel_rfl)) (fun _ _ _ h => h) (Or.inl ⟨by rfl,?_⟩) ?_ ?_
                 rotate_left
                 ·intro w'
                  go_simp
                  with_reducible rfl
                 rotate_left
                 ·simp only [Act.put,QL,QM,QN,QD,QF]
                  rfl
                 refine QH (i := 5) (N := some 57) (v := ?_) (a' := ?_) (ab 19 55) rfl rfl (QG HT_.out (by kernel_rfl)) (fun _ _ _ h => h) (Or.inl ⟨by rfl,?_⟩) ?_ ?_
                 rotate_left
                 ·intro w'
                  go_simp
                  with_reducible rfl
                 rotate_left
                 ·simp only [Act.put,QL,QM,QN,QD,QF]
                  rfl
                 refine QH (i := 6) (N := some 58) (v := ?_) (a' := ?_) (ab 19 119) rfl rfl (QG HT_.out (by kernel_rfl)) (fun _ _ _ h => h) (Or.inl ⟨by rfl,?_⟩) ?_ ?_
                 rotate_left
                 ·intro w'
                  go_simp
                  with_reducible rfl
                 rotate_left
                 ·simp only [Act.put,QL,QM,QN,QD,QF]
                  rfl
                 refine QH (i := 7) (N := some 59) (v := ?_) (a' := ?_) (ab 19 247) rfl rfl (QG HT_.out (by kernel_rfl)) (fun _ _ _ h => h) (Or.inl ⟨by rfl,?_⟩) ?_ ?_
                 rotate_left
                 ·intro w'
                  go_simp
                  with_reducible rfl
                 rotate_left
                 ·simp only [Act.put,QL,QM,QN,QD,QF]
                  rfl
                 refine QH (i := 3) (N := some 55) (v := ?_) (a' := ?_) (ab 19 255) rfl rfl (QG HT_.out (by kernel_rfl)) (fun _ _ _ h => h) (Or.inl ⟨by rfl,?_⟩) ?_ ?_
                 rotate_left
                 ·intro w'
                  go_simp
                  with_reducible rfl
                 rotate_left
                 ·simp only [Act.put,QL,QM,QN,QD,QF]
                  rfl
                 refine take_ (i := 8) (N := some 60) (v := ?_) (a' := ?_) (ab 19 511) rfl rfl (take_ofW HT_.out HW_.out (by kernel_rfl)) (fun _ _ _ h => h) (Or.inl ⟨by rfl,?_⟩) hHeld ?_ ?_
                 rotate_left
                 ·rintro w' ⟨s0,s1⟩
                  go_simp
                  with_reducible rfl
                 rotate_left
                 ·simp only [Act.put,QL,QM,QN,QD,QF]
                  rfl
                 refine QH (i := 9) (N := some 61) (v := ?_) (a' := ?_) (ab 19 1023) rfl rfl (QG HT_.out (by kernel_rfl)) (fun _ _ _ h => h) (Or.inl ⟨by rfl,?_⟩) ?_ ?_
                 rotate_left
                 ·intro w'
                  go_simp
                  with_reducible rfl
                 rotate_left
                 ·simp only [Act.put,QL,QM,QN,QD,QF]
                  rfl
                 refine QH (i := 10) (N := some 62) (v := ?_) (a' := ?_) (ab 19 2047) rfl rfl (QG HT_.out (by kernel_rfl)) (fun _ _ _ h => h) (Or.inl ⟨by rfl,?_⟩) ?_ ?_
                 rotate_left
                 ·intro w'
                  go_simp
                  with_reducible rfl
                 rotate_left
                 ·simp only [Act.put,QL,QM,QN,QD,QF]
                  rfl
                 refine QH (i := 11) (N := some 63) (v := ?_) (a' := ?_) (ab 19 4095) rfl rfl (QG HT_.out (by kernel_rfl)) (fun _ _ _ h => h) (Or.inl ⟨by rfl,?_⟩) ?_ ?_
                 rotate_left
                 ·intro w'
                  go_simp
                  with_reducible rfl
                 rotate_left
                 ·simp only [Act.put,QL,QM,QN,QD,QF]
                  rfl
                 refine QH (i := 12) (N := some 64) (v := ?_) (a' := ?_) (ab 19 8191) rfl rfl (QG HT_.out (by kernel_rfl)) (fun _ _ _ h => h) (Or.inl ⟨by rfl,?_⟩) ?_ ?_
                 rotate_left
                 ·intro w'
                  go_simp
                  with_reducible rfl
                 rotate_left
                 ·simp only [Act.put,QL,QM,QN,QD,QF]
                  rfl
                 refine QH (i := 13) (N := some 65) (v := ?_) (a' := ?_) (ab 19 16383) rfl rfl (QG HT_.out (by kernel_rfl)) (fun _ _ _ h => h) (Or.inl ⟨by rfl,?_⟩) ?_ ?_
                 rotate_left
                 ·intro w'
                  go_simp
                  with_reducible rfl
                 rotate_left
                 ·simp only [Act.put,QL,QM,QN,QD,QF]
                  rfl
                 refine take_ (i := 14) (N := some 66) (v := ?_) (a' := ?_) (ab 19 32767) rfl rfl (take_ofW HT_.out HW_.out (by kernel_rfl)) (fun _ _ _ h => h) (Or.inl ⟨by rfl,?_⟩) hHeld ?_ ?_
                 rotate_left
                 ·rintro w' ⟨s0,s1⟩
                  go_simp
                  with_reducible rfl
                 rotate_left
                 ·simp only [Act.put,QL,QM,QN,QD,QF]
                  rfl
                 refine QH (i := 15) (N := some 67) (v := ?_) (a' := ?_) (ab 19 65535) rfl rfl (QG HT_.out (by kernel_rfl)) (fun _ _ _ h => h) (Or.inl ⟨by rfl,?_⟩) ?_ ?_
                 rotate_left
                 ·intro w'
                  go_simp
                  with_reducible rfl
                 rotate_left
                 ·simp only [Act.put,QL,QM,QN,QD,QF]
                  rfl
                 refine last_ (i := 16) (N := some 68) (ab 19 131071) rfl rfl (one_of HT_.out (by kernel_rfl)) (by decide) (fun K hK => ?_)
                 refine value_ (w1 := ?_) (v := ?_) (by rfl) rfl ?_ ?_
                 rotate_left 2
                 ·go_simp
                  constructor
                  ·rfl
                  ·rfl
                 refine hK.out _ _ ?_
                 clear hK K
                 refine norm_ (a' := ?_) ?_ ?_
                 rotate_left
                 ·show Act.put _ (some 68) _ = _
                  simp only [Act.put,QL,QM,QN,QD,QF]
                  rfl
                 refine last_ (i := 17) (N := some 69) (ab 19 262143) rfl rfl (one_of HT_.out (by kernel_rfl)) (by decide) (fun K hK => ?_)
                 refine Kd.R_append_step Kd.bool (w0 := w) w.heap.size (by rfl) (.tmp 55) (.tmp 68) 57 4 (.bool false) 1 rfl Try.underlying57 info4 rfl (by decide) (by omega) (.slice (some ad184) y186.length co31) y186 (rdOf false x5_2 (ji26)) [.bool (rdOf false x5_2 (ji26))] (fun _ => True) (fun _ => False) rfl rfl ?aP (fun _ hk => hk.elim) ?aF ?aO ?aB ?aS ?aL ?_
                 (case aP => exact rfl)
                 (case aB => exact (by repeat (first | (with_reducible first | exact HB.out | apply QE | apply QB | apply QC) | exact HB.out)))
                 (case aF => exact (fun _ _ => trivial))
                 (case aO => exact (by (with_reducible repeat (first | apply Kd.R_alloc | apply Kd.R_drewN | apply Kd.R_drew)); exact HO188.out))
                 (case aS => exact (QJ (by repeat (first | (with_reducible first | exact HB.out | apply QE | apply QB | apply QC) | exact HB.out))))
                 (case aL => have := LMc30.out; omega)
                 intro v190 w34 ho hb hg hat
                 rw [← Ny189.out] at ho
                 have n0_ := QO (hb)
                 have n1_ := QO (ho)
                 clear HB
                 clear HO188
                 revert n0_ n1_
                 intro HB HO191
                 clear ho hb hg hat
                 refine hK.out _ _ ?_
                 clear hK K
                 refine norm_ (a' := ?_) ?_ ?_
                 rotate_left
                 ·show Act.put _ (some 69) _ = _
                  simp only [Act.put,QL,QM,QN,QD,QF]
                  rfl
                 refine QH (i := 18) (N := some 5) (v := ?_) (a' := ?_) (ab 19 524287) rfl rfl (QG HT_.out (by kernel_rfl)) (fun _ _ _ h => h) (Or.inl ⟨by rfl,?_⟩) ?_ ?_
                 rotate_left
                 ·intro w'
                  go_simp
                  with_reducible rfl
                 rotate_left
                 ·simp only [Act.put,QL,QM,QN,QD,QF]
                  rfl
                 refine done_ (done_of HT_.out (by kernel_rfl)) ?_
                 try go_wp2
                 go_roundg k2
                 case measure => have := HJ2.out; have := HK2.out; omega
                 case rel => exact ⟨(y189),(wrap64 (x6_2 + 1)),(by first | rfl | (simp; done) | (simp [*]; done)),H',⟨by have := HJ2.out; have := HK2.out; omega⟩,⟨by (with_reducible repeat (first | apply Kd.R_alloc | apply Kd.R_drewN | apply Kd.R_drew)); exact HO191.out⟩,⟨by repeat (first | (with_reducible first | exact HB.out | apply QE | apply QB | apply QC) | exact HB.out)⟩⟩
                ·rw [if_neg c30] at H
                 exact absurd H (by simp)
               ·rw [if_neg c29] at H
                exact absurd H (by simp)
              ·rw [if_neg c28] at H
               exact absurd H (by simp)
             ·rw [if_neg c27] at H
              exact absurd H (by simp)
            ·replace c25 := Bool.eq_false_iff.mpr c25
             subst c25
             rw [if_neg (show ¬ (false = true) by decide)] at H
             by_cases c35 : (ji21) ≤ (x5_2.length : Int)
             ·rw [if_pos c35] at H
              have c35b0 := eq_true c35
              have c35b1 : decide ((ji21) ≤ (x5_2.length : Int)) = true := decide_eq_true c35
              clear c35
              obtain ⟨y192,hy192⟩ : ∃ y_ : List Bool,y_ = (x5_2.take ((ji21) : Int).toNat) := ⟨_,rfl⟩
              replace H : (if y192.length < 140737488355328 then (spec_Matches.l0 k2 l0 a1 (y192 ++ [false]) (wrap64 (x6_2 + 1))) else (none)) = some r := by first | (rw [hy192]; with_reducible exact H) | (have H2_ := (Option.bind_some _ _).symm.trans H; rw [hy192]; with_reducible exact H2_) | (have H2_ := (Option.bind_some _ _).symm.trans H; with_reducible exact H2_) | with_reducible exact H | (rw [hy192]; exact H) | exact H
              have Ny192 := QO hy192
              clear hy192
              by_cases c36 : y192.length < 140737488355328
              ·rw [if_pos c36] at H
               have LMc36 := QO c36
               clear c36
               obtain ⟨y195,hy195⟩ : ∃ y_ : List Bool,y_ = (y192 ++ [false]) := ⟨_,rfl⟩
               replace H : (spec_Matches.l0 k2 l0 a1 y195 (wrap64 (x6_2 + 1))) = some r := by first | (rw [hy195]; with_reducible exact H) | (have H2_ := (Option.bind_some _ _).symm.trans H; rw [hy195]; with_reducible exact H2_) | (have H2_ := (Option.bind_some _ _).symm.trans H; with_reducible exact H2_) | with_reducible exact H | (rw [hy195]; exact H) | exact H
               have Ny195 := QO hy195
               clear hy195
               have H' := QO H
               clear H
               obtain ⟨Ao37,co37,eo37⟩ := Kd.R_slice HO_5.out
               subst eo37
               have p181 : 0 ≤ (x6_2 : Int) := of_decide_eq_true (by first | (with_reducible assumption) | assumption)
               have q181 : x6_2 < (l0.length : Int) := of_decide_eq_true (by first | (with_reducible assumption) | assumption)
               obtain ⟨ad181,e181,hx181_0⟩ := Kd.at_int HR0.out x6_2 p181 q181
               cases e181
               replace hx181_0 := (HB.out.cell (World.block_lt_of_cell? w _ hx181_0)).trans hx181_0
               replace p181 := eq_true p181
               replace q181 := eq_true q181
               try go_wp2
               have n0_ := QO (Kd.R_drew HO_5.out)
               have n1_ := QO (QC HB.out)
               clear HO_5
               clear HB
               revert n0_ n1_
               intro HO_5 HB
               have p184 : 0 ≤ ((ji21) : Int) := of_decide_eq_true (by first | (with_reducible assumption) | assumption)
               have q184 : (ji21) < (x5_2.length : Int) := of_decide_eq_true (by first | (with_reducible assumption) | assumption)
               obtain ⟨ad184,e184,hx184_0⟩ := Kd.at_bool (Kd.R_reads' HO_5.out).2.2 (ji21) p184 q184
               (try rw [← Nbq24.out] at hx184_0)
               cases e184
               replace p184 := eq_true p184
               replace q184 := eq_true q184
               have q39 : ((ji21) : Int) ≤ ((x5_2.length : Int) : Int) := of_decide_eq_true (by first | (with_reducible assumption) | assumption)
               obtain ⟨i039,hi039,_,hsz39,_⟩ := info_parts info4
               have hcut39 := cut_to (P := Try.prog) 57 4 .i64 Try.underlying57 hi039 (some ad184) x5_2.length co37 (ji21) (of_decide_eq_true (by first | (with_reducible assumption) | assumption)) q39 (Kd.R_reads' HO_5.out).2.1
               have hr39 := Kd.R_take (m := ((ji21) : Int).toNat) HO_5.out (by omega)
               have hy39 : y192.length = ((ji21) : Int).toNat := (by rw [Ny192.out,List.length_take]; omega)
               rw [← Ny192.out] at hr39
               rw [← hy39] at hr39 hcut39
               clear hy39 hi039 hsz39 HO_5
               have HO194 := QO hr39
               clear hr39
               replace q39 := eq_true q39
               refine start_ (n := 19) (S := fun w' => w'.cell? (ad184.add ((ji21)).toNat) = some (.bool false)) (ds := [16,17]) (ab 19 0) (by kernel_rfl) rfl rfl (hx184_0) (fun hHeld => ?_); refine with_tabW spec_Matches.tab13 spec_Matches.bits13 (fun HT_ HW_ => ?_)
               generalize wr.drew = w38 at HB HO194 hx184_0 hHeld ⊢
               refine QH (i := 0) (N := some 52) (v := ?_) (a' := ?_) (ab 19 1) rfl rfl (QG HT_.out (by kernel_rfl)) (fun _ _ _ h => h) (Or.inl ⟨by rfl,?_⟩) ?_ ?_
               rotate_left
               ·intro w'
                go_simp
                with_reducible rfl
               rotate_left
               ·simp only [Act.put,QL,QM,QN,QD,QF]
                rfl
               refine QH (i := 1) (N := some 53) (v := ?_) (a' := ?_) (ab 19 3) rfl rfl (QG HT_.out (by kernel_rfl)) (fun _ _ _ h => h) (Or.inl ⟨by rfl,?_⟩) ?_ ?_
               rotate_left
               ·intro w'
                go_simp
                with_reducible rfl
               rotate_left
               ·simp only [Act.put,QL,QM,QN,QD,QF]
                rfl
               refine QH (i := 2) (N := some 54) (v := ?_) (a' := ?_) (ab 19 7) rfl rfl (QG HT_.out (by kernel_rfl)) (fun _ _ _ h => h) (Or.inl ⟨by rfl,?_⟩) ?_ ?_
               rotate_left
               ·intro w'
                go_simp
                with_reducible rfl
               rotate_left
               ·simp only [Act.put,QL,QM,QN,QD,QF]
                rfl
               refine QH (i := 4) (N := some 56) (v := ?_) (a' := ?_) (ab 19 23) rfl rfl (QG HT_.out (by kernel_rfl)) (fun _ _ _ h => h) (Or.inl ⟨by rfl,?_⟩) ?_ ?_
               rotate_left
               ·intro w'
                go_simp
                with_reducible rfl
               rotate_left
               ·simp only [Act.put,QL,QM,QN,QD,QF]
                rfl
               refine QH (i := 5) (N := some 57) (v := ?_) (a' := ?_) (ab 19 55) rfl rfl (QG HT_.out (by kernel_rfl)) (fun _ _ _ h => h) (Or.inl ⟨by rfl,?_⟩) ?_ ?_
               rotate_left
               ·intro w'
                go_simp
                with_reducible rfl
               rotate_left
               ·simp only [Act.put,QL,QM,QN,QD,QF]
                rfl
               refine QH (i := 6) (N := some 58) (v := ?_) (a' := ?_) (ab 19 119) rfl rfl (QG HT_.out (by kernel_rfl)) (fun _ _ _ h => h) (Or.inl ⟨by rfl,?_⟩) ?_ ?_
               rotate_left
               ·intro w'
                go_simp
                with_reducible rfl
               rotate_left
               ·simp only [Act.put,QL,QM,QN,QD,QF]
                rfl
               refine QH (i := 7) (N := some 59) (v := ?_) (a' := ?_) (ab 19 247) rfl rfl (QG HT_.out (by kernel_rfl)) (fun _ _ _ h => h) (Or.inl ⟨by rfl,?_⟩) ?_ ?_
               rotate_left
               ·intro w'
                go_simp
                with_reducible rfl
               rotate_left
               ·simp only [Act.put,QL,QM,QN,QD,QF]
                rfl
               refine QH (i := 3) (N := some 55) (v := ?_) (a' := ?_) (ab 19 255) rfl rfl (QG HT_.out (by kernel_rfl)) (fun _ _ _ h => h) (Or.inl ⟨by rfl,?_⟩) ?_ ?_
               rotate_left
               ·intro w'
                go_simp
                with_reducible rfl
               rotate_left
               ·simp only [Act.put,QL,QM,QN,QD,QF]
                rfl
               refine take_ (i := 8) (N := some 60) (v := ?_) (a' := ?_) (ab 19 511) rfl rfl (take_ofW HT_.out HW_.out (by kernel_rfl)) (fun _ _ _ h => h) (Or.inl ⟨by rfl,?_⟩) hHeld ?_ ?_
               rotate_left
               ·intro w' s0
                go_simp
                with_reducible rfl
               rotate_left
               ·simp only [Act.put,QL,QM,QN,QD,QF]
                rfl
               refine QH (i := 9) (N := some 61) (v := ?_) (a' := ?_) (ab 19 1023) rfl rfl (QG HT_.out (by kernel_rfl)) (fun _ _ _ h => h) (Or.inl ⟨by rfl,?_⟩) ?_ ?_
               rotate_left
               ·intro w'
                go_simp
                with_reducible rfl
               rotate_left
               ·simp only [Act.put,QL,QM,QN,QD,QF]
                rfl
               refine skips_ HT_.out (fun _ _ _ _ h => h) (ab 19 32767) 4 [(10,62),(11,63),(12,64),(13,65),(14,66)] _ _ _ (by kernel_rfl) (by kernel_rfl) (by kernel_rfl) (a' := ?_) ?_ ?_
               rotate_left
               ·simp only [skA,Act.put,QL,QM,QN,QD,QF]
                rfl
               refine QH (i := 15) (N := some 67) (v := ?_) (a' := ?_) (ab 19 65535) rfl rfl (QG HT_.out (by kernel_rfl)) (fun _ _ _ h => h) (Or.inl ⟨by rfl,?_⟩) ?_ ?_
               rotate_left
               ·intro w'
                go_simp
                with_reducible rfl
               rotate_left
               ·simp only [Act.put,QL,QM,QN,QD,QF]
                rfl
               refine last_ (i := 16) (N := some 68) (ab 19 131071) rfl rfl (one_of HT_.out (by kernel_rfl)) (by decide) (fun K hK => ?_)
               refine value_ (w1 := ?_) (v := ?_) (by rfl) rfl ?_ ?_
               rotate_left 2
               ·go_simp
                constructor
                ·rfl
                ·rfl
               refine hK.out _ _ ?_
               clear hK K
               refine norm_ (a' := ?_) ?_ ?_
               rotate_left
               ·show Act.put _ (some 68) _ = _
                simp only [Act.put,QL,QM,QN,QD,QF]
                rfl
               refine last_ (i := 17) (N := some 69) (ab 19 262143) rfl rfl (one_of HT_.out (by kernel_rfl)) (by decide) (fun K hK => ?_)
               refine Kd.R_append_step Kd.bool (w0 := w) w.heap.size (by rfl) (.tmp 55) (.tmp 68) 57 4 (.bool false) 1 rfl Try.underlying57 info4 rfl (by decide) (by omega) (.slice (some ad184) y192.length co37) y192 false [.bool false] (fun _ => True) (fun _ => False) rfl rfl ?aP (fun _ hk => hk.elim) ?aF ?aO ?aB ?aS ?aL ?_
               (case aP => exact rfl)
               (case aB => exact (by repeat (first | (with_reducible first | exact HB.out | apply QE | apply QB | apply QC) | exact HB.out)))
               (case aF => exact (fun _ _ => trivial))
               (case aO => exact (by (with_reducible repeat (first | apply Kd.R_alloc | apply Kd.R_drewN | apply Kd.R_drew)); exact HO194.out))
               (case aS => exact (QJ (by repeat (first | (with_reducible first | exact HB.out | apply QE | apply QB | apply QC) | exact HB.out))))
               (case aL => have := LMc36.out; omega)
               intro v196 w40 ho hb hg hat
               rw [← Ny195.out] at ho
               have n0_ := QO (hb)
               have n1_ := QO (ho)
               clear HB
               clear HO194
               revert n0_ n1_
               intro HB HO197
               clear ho hb hg hat
               refine hK.out _ _ ?_
               clear hK K
               refine norm_ (a' := ?_) ?_ ?_
               rotate_left
               ·show Act.put _ (some 69) _ = _
                simp only [Act.put,QL,QM,QN,QD,QF]
                rfl
               refine QH (i := 18) (N := some 5) (v := ?_) (a' := ?_) (ab 19 524287) rfl rfl (QG HT_.out (by kernel_rfl)) (fun _ _ _ h => h) (Or.inl ⟨by rfl,?_⟩) ?_ ?_
               rotate_left
               ·intro w'
                go_simp
                with_reducible rfl
               rotate_left
               ·simp only [Act.put,QL,QM,QN,QD,QF]
                rfl
               refine done_ (done_of HT_.out (by kernel_rfl)) ?_
               try go_wp2
               go_roundg k2
               case measure => have := HJ2.out; have := HK2.out; omega
               case rel => exact ⟨(y195),(wrap64 (x6_2 + 1)),(by first | rfl | (simp; done) | (simp [*]; done)),H',⟨by have := HJ2.out; have := HK2.out; omega⟩,⟨by (with_reducible repeat (first | apply Kd.R_alloc | apply Kd.R_drewN | apply Kd.R_drew)); exact HO197.out⟩,⟨by repeat (first | (with_reducible first | exact HB.out | apply QE | apply QB | apply QC) | exact HB.out)⟩⟩
              ·rw [if_neg c36] at H
               exact absurd H (by simp)
             ·rw [if_neg c35] at H
              exact absurd H (by simp)
           ·rw [if_neg c23] at H
            exact absurd H (by simp)
          ·rw [if_neg c22] at H
           exact absurd H (by simp)
         ·rw [if_neg c20] at H
          have c20b0 : ((rd l0 x6_2) == (-2)) = false := beq_eq_false_iff_ne.mpr c20
          have c20b1 : ((rd l0 x6_2) != (-2)) = true := bne_iff_ne.mpr c20
          by_cases c41 : (rd l0 x6_2) = (-3)
          ·rw [if_pos c41] at H
           have c41b0 : ((rd l0 x6_2) == (-3)) = true := beq_iff_eq.mpr c41
           have c41b1 : ((rd l0 x6_2) != (-3)) = false := bne_eq_false_iff_eq.mpr c41
           clear c41
           obtain ⟨ji42,hji42⟩ : ∃ j_ : Int,(wrap64 ((x5_2.length : Int) - 2)) = j_ := ⟨_,rfl⟩
           replace H : (if 0 ≤ (ji42) then (if (ji42) < (x5_2.length : Int) then (if rdOf false x5_2 (ji42) = true then (if (ji42) ≤ (x5_2.length : Int) then ((some (x5_2.take ((ji42) : Int).toNat : List Bool)).bind fun y199 => (if y199.length < 140737488355328 then (spec_Matches.l0 k2 l0 a1 (y199 ++ [true]) (wrap64 (x6_2 + 1))) else (none))) else (none)) else (if 0 ≤ (wrap64 ((x5_2.length : Int) - 1)) then (if (wrap64 ((x5_2.length : Int) - 1)) < (x5_2.length : Int) then (if (ji42) ≤ (x5_2.length : Int) then ((some (x5_2.take ((ji42) : Int).toNat : List Bool)).bind fun y206 => (if y206.length < 140737488355328 then (spec_Matches.l0 k2 l0 a1 (y206 ++ [rdOf false x5_2 (wrap64 ((x5_2.length : Int) - 1))]) (wrap64 (x6_2 + 1))) else (none))) else (none)) else (none)) else (none))) else (none)) else (none)) = some r := by first | (rw [hji42] at H; exact H) | (simp only [hji42] at H ⊢; exact H)
           have hji42w : (IntKind.i64.wrap ((x5_2.length : Int) - 2)) = ji42 := (QD _).trans hji42
           by_cases c43 : 0 ≤ (ji42)
           ·rw [if_pos c43] at H
            have c43b0 : decide (0 ≤ (ji42)) = true := decide_eq_true c43
            clear c43
            by_cases c44 : (ji42) < (x5_2.length : Int)
            ·rw [if_pos c44] at H
             have c44b0 : decide ((ji42) < (x5_2.length : Int)) = true := decide_eq_true c44
             clear c44
             obtain ⟨bq45,hbq45⟩ : ∃ b_ : Bool,b_ = (rdOf false x5_2 (ji42)) := ⟨_,rfl⟩
             replace H : (if bq45 = true then (if (ji42) ≤ (x5_2.length : Int) then ((some (x5_2.take ((ji42) : Int).toNat : List Bool)).bind fun y199 => (if y199.length < 140737488355328 then (spec_Matches.l0 k2 l0 a1 (y199 ++ [true]) (wrap64 (x6_2 + 1))) else (none))) else (none)) else (if 0 ≤ (wrap64 ((x5_2.length : Int) - 1)) then (if (wrap64 ((x5_2.length : Int) - 1)) < (x5_2.length : Int) then (if (ji42) ≤ (x5_2.length : Int) then ((some (x5_2.take ((ji42) : Int).toNat : List Bool)).bind fun y206 => (if y206.length < 140737488355328 then (spec_Matches.l0 k2 l0 a1 (y206 ++ [rdOf false x5_2 (wrap64 ((x5_2.length : Int) - 1))]) (wrap64 (x6_2 + 1))) else (none))) else (none)) else (none)) else (none))) = some r := by rw [← hbq45] at H; exact H
             have Nbq45 := QO hbq45
             clear hbq45
             by_cases c46 : bq45 = true
             ·subst c46
              rw [if_pos rfl] at H
              by_cases c47 : (ji42) ≤ (x5_2.length : Int)
              ·rw [if_pos c47] at H
               have c47b0 := eq_true c47
               have c47b1 : decide ((ji42) ≤ (x5_2.length : Int)) = true := decide_eq_true c47
               clear c47
               obtain ⟨y199,hy199⟩ : ∃ y_ : List Bool,y_ = (x5_2.take ((ji42) : Int).toNat) := ⟨_,rfl⟩
               replace H : (if y199.length < 140737488355328 then (spec_Matches.l0 k2 l0 a1 (y199 ++ [true]) (wrap64 (x6_2 + 1))) else (none)) = some r := by first | (rw [hy199]; with_reducible exact H) | (have H2_ := (Option.bind_some _ _).symm.trans H; rw [hy199]; with_reducible exact H2_) | (have H2_ := (Option.bind_some _ _).symm.trans H; with_reducible exact H2_) | with_reducible exact H | (rw [hy199]; exact H) | exact H
               have Ny199 := QO hy199
               clear hy199
               by_cases c48 : y199.length < 140737488355328
               ·rw [if_pos c48] at H
                have LMc48 := QO c48
                clear c48
                obtain ⟨y202,hy202⟩ : ∃ y_ : List Bool,y_ = (y199 ++ [true]) := ⟨_,rfl⟩
                replace H : (spec_Matches.l0 k2 l0 a1 y202 (wrap64 (x6_2 + 1))) = some r := by first | (rw [hy202]; with_reducible exact H) | (have H2_ := (Option.bind_some _ _).symm.trans H; rw [hy202]; with_reducible exact H2_) | (have H2_ := (Option.bind_some _ _).symm.trans H; with_reducible exact H2_) | with_reducible exact H | (rw [hy202]; exact H) | exact H
                have Ny202 := QO hy202
                clear hy202
                have H' := QO H
                clear H
                obtain ⟨Ao49,co49,eo49⟩ := Kd.R_slice HO_5.out
                subst eo49
                have p181 : 0 ≤ (x6_2 : Int) := of_decide_eq_true (by first | (with_reducible assumption) | assumption)
                have q181 : x6_2 < (l0.length : Int) := of_decide_eq_true (by first | (with_reducible assumption) | assumption)
                obtain ⟨ad181,e181,hx181_0⟩ := Kd.at_int HR0.out x6_2 p181 q181
                cases e181
                replace hx181_0 := (HB.out.cell (World.block_lt_of_cell? w _ hx181_0)).trans hx181_0
                replace p181 := eq_true p181
                replace q181 := eq_true q181
                try go_wp2
                have n0_ := QO (Kd.R_drew HO_5.out)
                have n1_ := QO (QC HB.out)
                clear HO_5
                clear HB
                revert n0_ n1_
                intro HO_5 HB
                have p198 : 0 ≤ ((ji42) : Int) := of_decide_eq_true (by first | (with_reducible assumption) | assumption)
                have q198 : (ji42) < (x5_2.length : Int) := of_decide_eq_true (by first | (with_reducible assumption) | assumption)
                obtain ⟨ad198,e198,hx198_0⟩ := Kd.at_bool (Kd.R_reads' HO_5.out).2.2 (ji42) p198 q198
                (try rw [← Nbq45.out] at hx198_0)
                cases e198
                replace p198 := eq_true p198
                replace q198 := eq_true q198
                have q51 : ((ji42) : Int) ≤ ((x5_2.length : Int) : Int) := of_decide_eq_true (by first | (with_reducible assumption) | assumption)
                obtain ⟨i051,hi051,_,hsz51,_⟩ := info_parts info4
                have hcut51 := cut_to (P := Try.prog) 57 4 .i64 Try.underlying57 hi051 (some ad198) x5_2.length co49 (ji42) (of_decide_eq_true (by first | (with_reducible assumption) | assumption)) q51 (Kd.R_reads' HO_5.out).2.1
                have hr51 := Kd.R_take (m := ((ji42) : Int).toNat) HO_5.out (by omega)
                have hy51 : y199.length = ((ji42) : Int).toNat := (by rw [Ny199.out,List.length_take]; omega)
                rw [← Ny199.out] at hr51
                rw [← hy51] at hr51 hcut51
                clear hy51 hi051 hsz51 HO_5
                have HO201 := QO hr51
                clear hr51
                replace q51 := eq_true q51
                refine start_ (n := 19) (S := fun w' => w'.cell? (ad198.add ((ji42)).toNat) = some (.bool true)) (ds := [16,17]) (ab 19 0) (by kernel_rfl) rfl rfl (hx198_0) (fun hHeld => ?_); refine with_tabW spec_Matches.tab15 spec_Matches.bits15 (fun HT_ HW_ => ?_)
                generalize wr.drew = w50 at HB HO201 hx198_0 hHeld ⊢
                refine QH (i := 0) (N := some 72) (v := ?_) (a' := ?_) (ab 19 1) rfl rfl (QG HT_.out (by kernel_rfl)) (fun _ _ _ h => h) (Or.inl ⟨by rfl,?_⟩) ?_ ?_
                rotate_left
                ·intro w'
                 go_simp
                 with_reducible rfl
                rotate_left
                ·simp only [Act.put,QL,QM,QN,QD,QF]
                 rfl
                refine QH (i := 1) (N := some 73) (v := ?_) (a' := ?_) (ab 19 3) rfl rfl (QG HT_.out (by kernel_rfl)) (fun _ _ _ h => h) (Or.inl ⟨by rfl,?_⟩) ?_ ?_
                rotate_left
                ·intro w'
                 go_simp
                 with_reducible rfl
                rotate_left
                ·simp only [Act.put,QL,QM,QN,QD,QF]
                 rfl
                refine QH (i := 2) (N := some 74) (v := ?_) (a' := ?_) (ab 19 7) rfl rfl (QG HT_.out (by kernel_rfl)) (fun _ _ _ h => h) (Or.inl ⟨by rfl,?_⟩) ?_ ?_
                rotate_left
                ·intro w'
                 go_simp
                 with_reducible rfl
                rotate_left
                ·simp only [Act.put,QL,QM,QN,QD,QF]
                 rfl
                refine QH (i := 4) (N := some 76) (v := ?_) (a' := ?_) (ab 19 23) rfl rfl (QG HT_.out (by kernel_rfl)) (fun _ _ _ h => h) (Or.inl ⟨by rfl,?_⟩) ?_ ?_
                rotate_left
                ·intro w'
                 go_simp
                 with_reducible rfl
                rotate_left
                ·simp only [Act.put,QL,QM,QN,QD,QF]
                 rfl
                refine QH (i := 5) (N := some 77) (v := ?_) (a' := ?_) (ab 19 55) rfl rfl (QG HT_.out (by kernel_rfl)) (fun _ _ _ h => h) (Or.inl ⟨by rfl,?_⟩) ?_ ?_
                rotate_left
                ·intro w'
                 go_simp
                 with_reducible rfl
                rotate_left
                ·simp only [Act.put,QL,QM,QN,QD,QF]
                 rfl
                refine QH (i := 6) (N := some 78) (v := ?_) (a' := ?_) (ab 19 119) rfl rfl (QG HT_.out (by kernel_rfl)) (fun _ _ _ h => h) (Or.inl ⟨by rfl,?_⟩) ?_ ?_
                rotate_left
                ·intro w'
                 go_simp
                 with_reducible rfl
                rotate_left
                ·simp only [Act.put,QL,QM,QN,QD,QF]
                 rfl
                refine QH (i := 7) (N := some 79) (v := ?_) (a' := ?_) (ab 19 247) rfl rfl (QG HT_.out (by kernel_rfl)) (fun _ _ _ h => h) (Or.inl ⟨by rfl,?_⟩) ?_ ?_
                rotate_left
                ·intro w'
                 go_simp
                 with_reducible rfl
                rotate_left
                ·simp only [Act.put,QL,QM,QN,QD,QF]
                 rfl
                refine QH (i := 3) (N := some 75) (v := ?_) (a' := ?_) (ab 19 255) rfl rfl (QG HT_.out (by kernel_rfl)) (fun _ _ _ h => h) (Or.inl ⟨by rfl,?_⟩) ?_ ?_
                rotate_left
                ·intro w'
                 go_simp
                 with_reducible rfl
                rotate_left
                ·simp only [Act.put,QL,QM,QN,QD,QF]
                 rfl
                refine take_ (i := 8) (N := some 80) (v := ?_) (a' := ?_) (ab 19 511) rfl rfl (take_ofW HT_.out HW_.out (by kernel_rfl)) (fun _ _ _ h => h) (Or.inl ⟨by rfl,?_⟩) hHeld ?_ ?_
                rotate_left
                ·intro w' s0
                 go_simp
                 with_reducible rfl
                rotate_left
                ·simp only [Act.put,QL,QM,QN,QD,QF]
                 rfl
                refine QH (i := 9) (N := some 81) (v := ?_) (a' := ?_) (ab 19 1023) rfl rfl (QG HT_.out (by kernel_rfl)) (fun _ _ _ h => h) (Or.inl ⟨by rfl,?_⟩) ?_ ?_
                rotate_left
                ·intro w'
                 go_simp
                 with_reducible rfl
                rotate_left
                ·simp only [Act.put,QL,QM,QN,QD,QF]
                 rfl
                refine skips_ HT_.out (fun _ _ _ _ h => h) (ab 19 32767) 4 [(10,82),(11,83),(12,84),(13,85),(14,86)] _ _ _ (by kernel_rfl) (by kernel_rfl) (by kernel_rfl) (a' := ?_) ?_ ?_
                rotate_left
                ·simp only [skA,Act.put,QL,QM,QN,QD,QF]
                 rfl
                refine QH (i := 15) (N := some 87) (v := ?_) (a' := ?_) (ab 19 65535) rfl rfl (QG HT_.out (by kernel_rfl)) (fun _ _ _ h => h) (Or.inl ⟨by rfl,?_⟩) ?_ ?_
                rotate_left
                ·intro w'
                 go_simp
                 with_reducible rfl
                rotate_left
                ·simp only [Act.put,QL,QM,QN,QD,QF]
                 rfl
                refine last_ (i := 16) (N := some 88) (ab 19 131071) rfl rfl (one_of HT_.out (by kernel_rfl)) (by decide) (fun K hK => ?_)
                refine value_ (w1 := ?_) (v := ?_) (by rfl) rfl ?_ ?_
                rotate_left 2
                ·go_simp
                 constructor
                 ·rfl
                 ·rfl
                refine hK.out _ _ ?_
                clear hK K
                refine norm_ (a' := ?_) ?_ ?_
                rotate_left
                ·show Act.put _ (some 88) _ = _
                 simp only [Act.put,QL,QM,QN,QD,QF]
                 rfl
                refine last_ (i := 17) (N := some 89) (ab 19 262143) rfl rfl (one_of HT_.out (by kernel_rfl)) (by decide) (fun K hK => ?_)
                refine Kd.R_append_step Kd.bool (w0 := w) w.heap.size (by rfl) (.tmp 75) (.tmp 88) 57 4 (.bool false) 1 rfl Try.underlying57 info4 rfl (by decide) (by omega) (.slice (some ad198) y199.length co49) y199 true [.bool true] (fun _ => True) (fun _ => False) rfl rfl ?aP (fun _ hk => hk.elim) ?aF ?aO ?aB ?aS ?aL ?_
                (case aP => exact rfl)
                (case aB => exact (by repeat (first | (with_reducible first | exact HB.out | apply QE | apply QB | apply QC) | exact HB.out)))
                (case aF => exact (fun _ _ => trivial))
                (case aO => exact (by (with_reducible repeat (first | apply Kd.R_alloc | apply Kd.R_drewN | apply Kd.R_drew)); exact HO201.out))
                (case aS => exact (QJ (by repeat (first | (with_reducible first | exact HB.out | apply QE | apply QB | apply QC) | exact HB.out))))
                (case aL => have := LMc48.out; omega)
                intro v203 w52 ho hb hg hat
                rw [← Ny202.out] at ho
                have n0_ := QO (hb)
                have n1_ := QO (ho)
                clear HB
                clear HO201
                revert n0_ n1_
                intro HB HO204
                clear ho hb hg hat
                refine hK.out _ _ ?_
                clear hK K
                refine norm_ (a' := ?_) ?_ ?_
                rotate_left
                ·show Act.put _ (some 89) _ = _
                 simp only [Act.put,QL,QM,QN,QD,QF]
                 rfl
                refine QH (i := 18) (N := some 5) (v := ?_) (a' := ?_) (ab 19 524287) rfl rfl (QG HT_.out (by kernel_rfl)) (fun _ _ _ h => h) (Or.inl ⟨by rfl,?_⟩) ?_ ?_
                rotate_left
                ·intro w'
                 go_simp
                 with_reducible rfl
                rotate_left
                ·simp only [Act.put,QL,QM,QN,QD,QF]
                 rfl
                refine done_ (done_of HT_.out (by kernel_rfl)) ?_
                try go_wp2
                go_roundg k2
                case measure => have := HJ2.out; have := HK2.out; omega
                case rel => exact ⟨(y202),(wrap64 (x6_2 + 1)),(by first | rfl | (simp; done) | (simp [*]; done)),H',⟨by have := HJ2.out; have := HK2.out; omega⟩,⟨by (with_reducible repeat (first | apply Kd.R_alloc | apply Kd.R_drewN | apply Kd.R_drew)); exact HO204.out⟩,⟨by repeat (first | (with_reducible first | exact HB.out | apply QE | apply QB | apply QC) | exact HB.out)⟩⟩
               ·rw [if_neg c48] at H
                exact absurd H (by simp)
              ·rw [if_neg c47] at H
               exact absurd H (by simp)
             ·replace c46 := Bool.eq_false_iff.mpr c46
              subst c46
              rw [if_neg (show ¬ (false = true) by decide)] at H
              obtain ⟨ji53,hji53⟩ : ∃ j_ : Int,(wrap64 ((x5_2.length : Int) - 1)) = j_ := ⟨_,rfl⟩
              replace H : (if 0 ≤ (ji53) then (if (ji53) < (x5_2.length : Int) then (if (ji42) ≤ (x5_2.length : Int) then ((some (x5_2.take ((ji42) : Int).toNat : List Bool)).bind fun y206 => (if y206.length < 140737488355328 then (spec_Matches.l0 k2 l0 a1 (y206 ++ [rdOf false x5_2 (ji53)]) (wrap64 (x6_2 + 1))) else (none))) else (none)) else (none)) else (none)) = some r := by first | (rw [hji53] at H; exact H) | (simp only [hji53] at H ⊢; exact H)
              have hji53w : (IntKind.i64.wrap ((x5_2.length : Int) - 1)) = ji53 := (QD _).trans hji53
              by_cases c54 : 0 ≤ (ji53)
              ·rw [if_pos c54] at H
               have c54b0 : decide (0 ≤ (ji53)) = true := decide_eq_true c54
               clear c54
               by_cases c55 : (ji53) < (x5_2.length : Int)
               ·rw [if_pos c55] at H
                have c55b0 : decide ((ji53) < (x5_2.length : Int)) = true := decide_eq_true c55
                clear c55
                by_cases c56 : (ji42) ≤ (x5_2.length : Int)
                ·rw [if_pos c56] at H
                 have c56b0 := eq_true c56
                 have c56b1 : decide ((ji42) ≤ (x5_2.length : Int)) = true := decide_eq_true c56
                 clear c56
                 obtain ⟨y206,hy206⟩ : ∃ y_ : List Bool,y_ = (x5_2.take ((ji42) : Int).toNat) := ⟨_,rfl⟩
                 replace H : (if y206.length < 140737488355328 then (spec_Matches.l0 k2 l0 a1 (y206 ++ [rdOf false x5_2 (ji53)]) (wrap64 (x6_2 + 1))) else (none)) = some r := by first | (rw [hy206]; with_reducible exact H) | (have H2_ := (Option.bind_some _ _).symm.trans H; rw [hy206]; with_reducible exact H2_) | (have H2_ := (Option.bind_some _ _).symm.trans H; with_reducible exact H2_) | with_reducible exact H | (rw [hy206]; exact H) | exact H
                 have Ny206 := QO hy206
                 clear hy206
                 by_cases c57 : y206.length < 140737488355328
                 ·rw [if_pos c57] at H
                  have LMc57 := QO c57
                  clear c57
                  obtain ⟨y209,hy209⟩ : ∃ y_ : List Bool,y_ = (y206 ++ [rdOf false x5_2 (ji53)]) := ⟨_,rfl⟩
                  replace H : (spec_Matches.l0 k2 l0 a1 y209 (wrap64 (x6_2 + 1))) = some r := by first | (rw [hy209]; with_reducible exact H) | (have H2_ := (Option.bind_some _ _).symm.trans H; rw [hy209]; with_reducible exact H2_) | (have H2_ := (Option.bind_some _ _).symm.trans H; with_reducible exact H2_) | with_reducible exact H | (rw [hy209]; exact H) | exact H
                  have Ny209 := QO hy209
                  clear hy209
                  have H' := QO H
                  clear H
                  obtain ⟨Ao58,co58,eo58⟩ := Kd.R_slice HO_5.out
                  subst eo58
                  have p181 : 0 ≤ (x6_2 : Int) := of_decide_eq_true (by first | (with_reducible assumption) | assumption)
                  have q181 : x6_2 < (l0.length : Int) := of_decide_eq_true (by first | (with_reducible assumption) | assumption)
                  obtain ⟨ad181,e181,hx181_0⟩ := Kd.at_int HR0.out x6_2 p181 q181
                  cases e181
                  replace hx181_0 := (HB.out.cell (World.block_lt_of_cell? w _ hx181_0)).trans hx181_0
                  replace p181 := eq_true p181
                  replace q181 := eq_true q181
                  try go_wp2
                  have n0_ := QO (Kd.R_drew HO_5.out)
                  have n1_ := QO (QC HB.out)
                  clear HO_5
                  clear HB
                  revert n0_ n1_
                  intro HO_5 HB
                  have p198 : 0 ≤ ((ji42) : Int) := of_decide_eq_true (by first | (with_reducible assumption) | assumption)
                  have q198 : (ji42) < (x5_2.length : Int) := of_decide_eq_true (by first | (with_reducible assumption) | assumption)
                  obtain ⟨ad198,e198,hx198_0⟩ := Kd.at_bool (Kd.R_reads' HO_5.out).2.2 (ji42) p198 q198
                  (try rw [← Nbq45.out] at hx198_0)
                  cases e198
                  replace p198 := eq_true p198
                  replace q198 := eq_true q198
                  have p205 : 0 ≤ ((ji53) : Int) := of_decide_eq_true (by first | (with_reducible assumption) | assumption)
                  have q205 : (ji53) < (x5_2.length : Int) := of_decide_eq_true (by first | (with_reducible assumption) | assumption)
                  obtain ⟨ad205,e205,hx205_0⟩ := Kd.at_bool (Kd.R_reads' HO_5.out).2.2 (ji53) p205 q205
                  (try rw [← Nbq45.out] at hx205_0)
                  obtain rfl : ad198 = ad205 := (by injection e205)
                  replace p205 := eq_true p205
                  replace q205 := eq_true q205
                  have q60 : ((ji42) : Int) ≤ ((x5_2.length : Int) : Int) := of_decide_eq_true (by first | (with_reducible assumption) | assumption)
                  obtain ⟨i060,hi060,_,hsz60,_⟩ := info_parts info4
                  have hcut60 := cut_to (P := Try.prog) 57 4 .i64 Try.underlying57 hi060 (some ad198) x5_2.length co58 (ji42) (of_decide_eq_true (by first | (with_reducible assumption) | assumption)) q60 (Kd.R_reads' HO_5.out).2.1
                  have hr60 := Kd.R_take (m := ((ji42) : Int).toNat) HO_5.out (by omega)
                  have hy60 : y206.length = ((ji42) : Int).toNat := (by rw [Ny206.out,List.length_take]; omega)
                  rw [← Ny206.out] at hr60
                  rw [← hy60] at hr60 hcut60
                  clear hy60 hi060 hsz60 HO_5
                  have HO208 := QO hr60
                  clear hr60
                  replace q60 := eq_true q60
                  refine start_ (n := 19) (S := fun w' => w'.cell? (ad198.add ((ji42)).toNat) = some (.bool false) ∧ w'.cell? (ad198.add ((ji53)).toNat) = some (.bool (rdOf false x5_2 (ji53)))) (ds := [16,17]) (ab 19 0) (by kernel_rfl) rfl rfl ⟨hx198_0,hx205_0⟩ (fun hHeld => ?_); refine with_tabW spec_Matches.tab15 spec_Matches.bits15 (fun HT_ HW_ => ?_)
                  generalize wr.drew = w59 at HB HO208 hx198_0 hx205_0 hHeld ⊢
                  refine QH (i := 0) (N := some 72) (v := ?_) (a' := ?_) (ab 19 1) rfl rfl (QG HT_.out (by kernel_rfl)) (fun _ _ _ h => h) (Or.inl ⟨by rfl,?_⟩) ?_ ?_
                  rotate_left
                  ·intro w'
                   go_simp
                   with_reducible rfl
                  rotate_left
                  ·simp only [Act.put,QL,QM,QN,QD,QF]
                   rfl
                  refine QH (i := 1) (N := some 73) (v := ?_) (a' := ?_) (ab 19 3) rfl rfl (QG HT_.out (by kernel_rfl)) (fun _ _ _ h => h) (Or.inl ⟨by rfl,?_⟩) ?_ ?_
                  rotate_left
                  ·intro w'
                   go_simp
                   with_reducible rfl
                  rotate_left
                  ·simp only [Act.put,QL,QM,QN,QD,QF]
                   rfl
                  refine QH (i := 2) (N := some 74) (v := ?_) (a' := ?_) (ab 19 7) rfl rfl (QG HT_.out (by kernel_rfl)) (fun _ _ _ h => h) (Or.inl ⟨by rfl,?_⟩) ?_ ?_
                  rotate_left
                  ·intro w'
                   go_simp
                   with_reducible rfl
                  rotate_left
                  ·simp only [Act.put,QL,QM,QN,QD,QF]
                   rfl
                  refine QH (i := 4) (N := some 76) (v := ?_) (a' := ?_) (ab 19 23) rfl rfl (QG HT_.out (by kernel_rfl)) (fun _ _ _ h => h) (Or.inl ⟨by rfl,?_⟩) ?_ ?_
                  rotate_left
                  ·intro w'
                   go_simp
                   with_reducible rfl
                  rotate_left
                  ·simp only [Act.put,QL,QM,QN,QD,QF]
                   rfl
                  refine QH (i := 5) (N := some 77) (v := ?_) (a' := ?_) (ab 19 55) rfl rfl (QG HT_.out (by kernel_rfl)) (fun _ _ _ h => h) (Or.inl ⟨by rfl,?_⟩) ?_ ?_
                  rotate_left
                  ·intro w'
                   go_simp
                   with_reducible rfl
                  rotate_left
                  ·simp only [Act.put,QL,QM,QN,QD,QF]
                   rfl
                  refine QH (i := 6) (N := some 78) (v := ?_) (a' := ?_) (ab 19 119) rfl rfl (QG HT_.out (by kernel_rfl)) (fun _ _ _ h => h) (Or.inl ⟨by rfl,?_⟩) ?_ ?_
                  rotate_left
                  ·intro w'
                   go_simp
                   with_reducible rfl
                  rotate_left
                  ·simp only [Act.put,QL,QM,QN,QD,QF]
                   rfl
                  refine QH (i := 7) (N := some 79) (v := ?_) (a' := ?_) (ab 19 247) rfl rfl (QG HT_.out (by kernel_rfl)) (fun _ _ _ h => h) (Or.inl ⟨by rfl,?_⟩) ?_ ?_
                  rotate_left
                  ·intro w'
                   go_simp
                   with_reducible rfl
                  rotate_left
                  ·simp only [Act.put,QL,QM,QN,QD,QF]
                   rfl
                  refine QH (i := 3) (N := some 75) (v := ?_) (a' := ?_) (ab 19 255) rfl rfl (QG HT_.out (by kernel_rfl)) (fun _ _ _ h => h) (Or.inl ⟨by rfl,?_⟩) ?_ ?_
                  rotate_left
                  ·intro w'
                   go_simp
                   with_reducible rfl
                  rotate_left
                  ·simp only [Act.put,QL,QM,QN,QD,QF]
                   rfl
                  refine take_ (i := 8) (N := some 80) (v := ?_) (a' := ?_) (ab 19 511) rfl rfl (take_ofW HT_.out HW_.out (by kernel_rfl)) (fun _ _ _ h => h) (Or.inl ⟨by rfl,?_⟩) hHeld ?_ ?_
                  rotate_left
                  ·rintro w' ⟨s0,s1⟩
                   go_simp
                   with_reducible rfl
                  rotate_left
                  ·simp only [Act.put,QL,QM,QN,QD,QF]
                   rfl
                  refine QH (i := 9) (N := some 81) (v := ?_) (a' := ?_) (ab 19 1023) rfl rfl (QG HT_.out (by kernel_rfl)) (fun _ _ _ h => h) (Or.inl ⟨by rfl,?_⟩) ?_ ?_
                  rotate_left
                  ·intro w'
                   go_simp
                   with_reducible rfl
                  rotate_left
                  ·simp only [Act.put,QL,QM,QN,QD,QF]
                   rfl
                  refine QH (i := 10) (N := some 82) (v := ?_) (a' := ?_) (ab 19 2047) rfl rfl (QG HT_.out (by kernel_rfl)) (fun _ _ _ h => h) (Or.inl ⟨by rfl,?_⟩) ?_ ?_
                  rotate_left
                  ·intro w'
                   go_simp
                   with_reducible rfl
                  rotate_left
                  ·simp only [Act.put,QL,QM,QN,QD,QF]
                   rfl
                  refine QH (i := 11) (N := some 83) (v := ?_) (a' := ?_) (ab 19 4095) rfl rfl (QG HT_.out (by kernel_rfl)) (fun _ _ _ h => h) (Or.inl ⟨by rfl,?_⟩) ?_ ?_
                  rotate_left
                  ·intro w'
                   go_simp
                   with_reducible rfl
                  rotate_left
                  ·simp only [Act.put,QL,QM,QN,QD,QF]
                   rfl
                  refine QH (i := 12) (N := some 84) (v := ?_) (a' := ?_) (ab 19 8191) rfl rfl (QG HT_.out (by kernel_rfl)) (fun _ _ _ h => h) (Or.inl ⟨by rfl,?_⟩) ?_ ?_
                  rotate_left
                  ·intro w'
                   go_simp
                   with_reducible rfl
                  rotate_left
                  ·simp only [Act.put,QL,QM,QN,QD,QF]
                   rfl
                  refine QH (i := 13) (N := some 85) (v := ?_) (a' := ?_) (ab 19 16383) rfl rfl (QG HT_.out (by kernel_rfl)) (fun _ _ _ h => h) (Or.inl ⟨by rfl,?_⟩) ?_ ?_
                  rotate_left
                  ·intro w'
                   go_simp
                   with_reducible rfl
                  rotate_left
                  ·simp only [Act.put,QL,QM,QN,QD,QF]
                   rfl
                  refine take_ (i := 14) (N := some 86) (v := ?_) (a' := ?_) (ab 19 32767) rfl rfl (take_ofW HT_.out HW_.out (by kernel_rfl)) (fun _ _ _ h => h) (Or.inl ⟨by rfl,?_⟩) hHeld ?_ ?_
                  rotate_left
                  ·rintro w' ⟨s0,s1⟩
                   go_simp
                   with_reducible rfl
                  rotate_left
                  ·simp only [Act.put,QL,QM,QN,QD,QF]
                   rfl
                  refine QH (i := 15) (N := some 87) (v := ?_) (a' := ?_) (ab 19 65535) rfl rfl (QG HT_.out (by kernel_rfl)) (fun _ _ _ h => h) (Or.inl ⟨by rfl,?_⟩) ?_ ?_
                  rotate_left
                  ·intro w'
                   go_simp
                   with_reducible rfl
                  rotate_left
                  ·simp only [Act.put,QL,QM,QN,QD,QF]
                   rfl
                  refine last_ (i := 16) (N := some 88) (ab 19 131071) rfl rfl (one_of HT_.out (by kernel_rfl)) (by decide) (fun K hK => ?_)
                  refine value_ (w1 := ?_) (v := ?_) (by rfl) rfl ?_ ?_
                  rotate_left 2
                  ·go_simp
                   constructor
                   ·rfl
                   ·rfl
                  refine hK.out _ _ ?_
                  clear hK K
                  refine norm_ (a' := ?_) ?_ ?_
                  rotate_left
                  ·show Act.put _ (some 88) _ = _
                   simp only [Act.put,QL,QM,QN,QD,QF]
                   rfl
                  refine last_ (i := 17) (N := some 89) (ab 19 262143) rfl rfl (one_of HT_.out (by kernel_rfl)) (by decide) (fun K hK => ?_)
                  refine Kd.R_append_step Kd.bool (w0 := w) w.heap.size (by rfl) (.tmp 75) (.tmp 88) 57 4 (.bool false) 1 rfl Try.underlying57 info4 rfl (by decide) (by omega) (.slice (some ad198) y206.length co58) y206 (rdOf false x5_2 (ji53)) [.bool (rdOf false x5_2 (ji53))] (fun _ => True) (fun _ => False) rfl rfl ?aP (fun _ hk => hk.elim) ?aF ?aO ?aB ?aS ?aL ?_
                  (case aP => exact rfl)
                  (case aB => exact (by repeat (first | (with_reducible first | exact HB.out | apply QE | apply QB | apply QC) | exact HB.out)))
                  (case aF => exact (fun _ _ => trivial))
                  (case aO => exact (by (with_reducible repeat (first | apply Kd.R_alloc | apply Kd.R_drewN | apply Kd.R_drew)); exact HO208.out))
                  (case aS => exact (QJ (by repeat (first | (with_reducible first | exact HB.out | apply QE | apply QB | apply QC) | exact HB.out))))
                  (case aL => have := LMc57.out; omega)
                  intro v210 w61 ho hb hg hat
                  rw [← Ny209.out] at ho
                  have n0_ := QO (hb)
                  have n1_ := QO (ho)
                  clear HB
                  clear HO208
                  revert n0_ n1_
                  intro HB HO211
                  clear ho hb hg hat
                  refine hK.out _ _ ?_
                  clear hK K
                  refine norm_ (a' := ?_) ?_ ?_
                  rotate_left
                  ·show Act.put _ (some 89) _ = _
                   simp only [Act.put,QL,QM,QN,QD,QF]
                   rfl
                  refine QH (i := 18) (N := some 5) (v := ?_) (a' := ?_) (ab 19 524287) rfl rfl (QG HT_.out (by kernel_rfl)) (fun _ _ _ h => h) (Or.inl ⟨by rfl,?_⟩) ?_ ?_
                  rotate_left
                  ·intro w'
                   go_simp
                   with_reducible rfl
                  rotate_left
                  ·simp only [Act.put,QL,QM,QN,QD,QF]
                   rfl
                  refine done_ (done_of HT_.out (by kernel_rfl)) ?_
                  try go_wp2
                  go_roundg k2
                  case measure => have := HJ2.out; have := HK2.out; omega
                  case rel => exact ⟨(y209),(wrap64 (x6_2 + 1)),(by first | rfl | (simp; done) | (simp [*]; done)),H',⟨by have := HJ2.out; have := HK2.out; omega⟩,⟨by (with_reducible repeat (first | apply Kd.R_alloc | apply Kd.R_drewN | apply Kd.R_drew)); exact HO211.out⟩,⟨by repeat (first | (with_reducible first | exact HB.out | apply QE | apply QB | apply QC) | exact HB.out)⟩⟩
                 ·rw [if_neg c57] at H
                  exact absurd H (by simp)
                ·rw [if_neg c56] at H
                 exact absurd H (by simp)
               ·rw [if_neg c55] at H
                exact absurd H (by simp)
              ·rw [if_neg c54] at H
               exact absurd H (by simp)
            ·rw [if_neg c44] at H
             exact absurd H (by simp)
           ·rw [if_neg c43] at H
            exact absurd H (by simp)
          ·rw [if_neg c41] at H
           have c41b0 : ((rd l0 x6_2) == (-3)) = false := beq_eq_false_iff_ne.mpr c41
           have c41b1 : ((rd l0 x6_2) != (-3)) = true := bne_iff_ne.mpr c41
           replace H := QP.mp H
           obtain ⟨t213,A620,H⟩ := H
           have A62 := QO A620
           clear A620
           by_cases c63 : x5_2.length < 140737488355328
           ·rw [if_pos c63] at H
            have LMc63 := QO c63
            clear c63
            obtain ⟨y214,hy214⟩ : ∃ y_ : List Bool,y_ = (x5_2 ++ [t213]) := ⟨_,rfl⟩
            replace H : (spec_Matches.l0 k2 l0 a1 y214 (wrap64 (x6_2 + 1))) = some r := by first | (rw [hy214]; with_reducible exact H) | (have H2_ := (Option.bind_some _ _).symm.trans H; rw [hy214]; with_reducible exact H2_) | (have H2_ := (Option.bind_some _ _).symm.trans H; with_reducible exact H2_) | with_reducible exact H | (rw [hy214]; exact H) | exact H
            have Ny214 := QO hy214
            clear hy214
            have H' := QO H
            clear H
            obtain ⟨Ao64,co64,eo64⟩ := Kd.R_slice HO_5.out
            subst eo64
            have p181 : 0 ≤ (x6_2 : Int) := of_decide_eq_true (by first | (with_reducible assumption) | assumption)
            have q181 : x6_2 < (l0.length : Int) := of_decide_eq_true (by first | (with_reducible assumption) | assumption)
            obtain ⟨ad181,e181,hx181_0⟩ := Kd.at_int HR0.out x6_2 p181 q181
            cases e181
            replace hx181_0 := (HB.out.cell (World.block_lt_of_cell? w _ hx181_0)).trans hx181_0
            replace p181 := eq_true p181
            replace q181 := eq_true q181
            have p212 : 0 ≤ (x6_2 : Int) := of_decide_eq_true (by first | (with_reducible assumption) | assumption)
            have q212 : x6_2 < (l0.length : Int) := of_decide_eq_true (by first | (with_reducible assumption) | assumption)
            obtain ⟨ad212,e212,hx212_0⟩ := Kd.at_int HR0.out x6_2 p212 q212
            obtain rfl : ad181 = ad212 := (by injection e212)
            replace hx212_0 := (HB.out.cell (World.block_lt_of_cell? w _ hx212_0)).trans hx212_0
            replace p212 := eq_true p212
            replace q212 := eq_true q212
            go_wp2_with (first | ((with_reducible refine gate_callee (f := 51) rfl ?_); refine goesL_ (some 35) rfl rfl Try.func51 (by kernel_rfl) rfl #[.int .i64 (rd l0 x6_2),.int .i64 a1] rfl (by (try simp only [List.map_toArray,List.map_cons,List.map_nil]); first | done | rfl | (simp only [List.length_drop,List.length_take]; rfl)) ?_; (with_reducible refine (spec_l8Value.calls (rd l0 x6_2) a1 t213 _ A62.out).mono ?_); rintro e w' ⟨rfl,⟨nd,rfl⟩⟩; refine ⟨_,rfl,?_⟩) | ((with_reducible refine gate_builtin (b := .append) (xs := #[.tmp 29,.tmp 36]) rfl ?_); at_builtin; refine Kd.R_append Kd.bool (w0 := w) w.heap.size rfl (.tmp 29) (.tmp 36) 57 4 (.bool false) 1 rfl Try.underlying57 info4 rfl (by decide) (by omega) (.slice Ao64 x5_2.length co64) x5_2 t213 [.bool t213] (fun _ => True) (fun _ => False) rfl rfl ?aP (fun _ hk => hk.elim) ?aF ?aO ?aB ?aS ?aL ?_; (case aP => exact rfl); (case aB => exact (by repeat (first | (with_reducible first | exact HB.out | apply QE | apply QB | apply QC) | exact HB.out))); (case aF => exact (fun _ _ => trivial)); (case aO => exact (by (with_reducible repeat (first | apply Kd.R_alloc | apply Kd.R_drewN | apply Kd.R_drew)); exact HO_5.out)); (case aS => exact (QJ (by repeat (first | (with_reducible first | exact HB.out | apply QE | apply QB | apply QC) | exact HB.out)))); (case aL => have := LMc63.out; omega); intro v215 w65 ho hb hg hat; rw [← Ny214.out] at ho; have n0_ := QO (hb); have n1_ := QO (ho); clear HB; clear HO_5; revert n0_ n1_; intro HB HO216; clear ho hb hg hat))
            go_roundg k2
            case measure => have := HJ2.out; have := HK2.out; omega
            case rel => exact ⟨(y214),(wrap64 (x6_2 + 1)),(by first | rfl | (simp; done) | (simp [*]; done)),H',⟨by have := HJ2.out; have := HK2.out; omega⟩,⟨by (with_reducible repeat (first | apply Kd.R_alloc | apply Kd.R_drewN | apply Kd.R_drew)); exact HO216.out⟩,⟨by repeat (first | (with_reducible first | exact HB.out | apply QE | apply QB | apply QC) | exact HB.out)⟩⟩
           ·rw [if_neg c63] at H
            exact absurd H (by simp)
       ·rw [if_neg c11] at H
        exact absurd H (by simp)
      ·rw [if_neg c10] at H
       have c10b0 : decide (x6_2 < (l0.length : Int)) = false := decide_eq_false c10
       clear c10
       by_cases c66 : 0 < (x5_2.length : Int)
       ·rw [if_pos c66] at H
        have c66b0 : decide (0 < (x5_2.length : Int)) = true := decide_eq_true c66
        have c66b1 : decide (0 < x5_2.length) = true := decide_eq_true (by omega)
        clear c66
        obtain rfl := Option.some.inj H
        obtain ⟨Ao67,co67,eo67⟩ := Kd.R_slice HO_5.out
        subst eo67
        have p180 : 0 ≤ (0 : Int) := (by omega)
        have q180 : 0 < (x5_2.length : Int) := of_decide_eq_true (by first | (with_reducible assumption) | assumption)
        obtain ⟨ad180,e180,hx180_0⟩ := Kd.at_bool (Kd.R_reads' HO_5.out).2.2 0 p180 q180
        cases e180
        have qi180 : (0 < x5_2.length) = True := eq_true (by omega)
        (try rw [show ((0 : Int)).toNat = 0 from rfl] at hx180_0)
        (try rw [Addr.add_zero'] at hx180_0)
        replace p180 := eq_true p180
        replace q180 := eq_true q180
        go_wp2
        go_ret
        exact ⟨by first | rfl | (simp [errW_none,errW_some] <;> rfl) | (simp [*,errW_none,errW_some] <;> rfl),by repeat (first | (with_reducible first | exact HB.out | apply QE | apply QB | apply QC) | exact HB.out)⟩
       ·rw [if_neg c66] at H
        exact absurd H (by simp)

/-! ### spec_FitsOn: function 28 -/
def spec_FitsOn.j0 : Nat → Int → Int → Bool → Int → Int → Bool → Bool → List Int → List Int → Int → Int → Option (Bool)
 | 0,_,_,_,_,_,_,_,_,_,_,_ => none
 | k + 1,x1,x2,x19,x218000,x218001,x218002,x218003,x218004,x218005,x218006,x218007 => if x19 = true then (some false) else (if x218002 = true then ((spec_SuitOf.f x2).bind fun t221 => ((spec_SuitOf.f x1).bind fun t222 => (if t221 = t222 then (some true) else (if x218003 = true then ((spec_RankOf.f x2).bind fun t223 => ((spec_RankOf.f x1).bind fun t224 => (if t223 = t224 then (some true) else ((spec_Matches.f k x218004 x2).bind fun t225 => (some t225))))) else ((spec_Matches.f k x218004 x2).bind fun t226 => (some t226)))))) else (if x218003 = true then ((spec_RankOf.f x2).bind fun t227 => ((spec_RankOf.f x1).bind fun t228 => (if t227 = t228 then (some true) else ((spec_Matches.f k x218004 x2).bind fun t229 => (some t229))))) else ((spec_Matches.f k x218004 x2).bind fun t230 => (some t230))))
def spec_FitsOn.f (k : Nat) (a0_0 : Int) (a0_1 : Int) (a0_2 : Bool) (a0_3 : Bool) (l0_4 : List Int) (l0_5 : List Int) (a0_6 : Int) (a0_7 : Int) (a1 : Int) (a2 : Int) : Option (Bool) := (spec_IsRules.f k a0_0 a0_1 a0_2 a0_3 l0_4 l0_5 a0_6 a0_7).bind fun t218 => (if t218 = true then ((spec_IsCard.f a1).bind fun t219 => (if t219 = true then ((spec_IsCard.f a2).bind fun t220 => (spec_FitsOn.j0 k a1 a2 (!t220) a0_0 a0_1 a0_2 a0_3 l0_4 l0_5 a0_6 a0_7)) else (spec_FitsOn.j0 k a1 a2 true a0_0 a0_1 a0_2 a0_3 l0_4 l0_5 a0_6 a0_7))) else (spec_FitsOn.j0 k a1 a2 true a0_0 a0_1 a0_2 a0_3 l0_4 l0_5 a0_6 a0_7))
theorem spec_FitsOn.mono_l : ∀ k, (∀ y0 y1 y2 y3 y4 y5 y6 y7 y8 y9 y10, LeO (spec_FitsOn.j0 k y0 y1 y2 y3 y4 y5 y6 y7 y8 y9 y10) (spec_FitsOn.j0 (k + 1) y0 y1 y2 y3 y4 y5 y6 y7 y8 y9 y10))
 | 0 => fun _ _ _ _ _ _ _ _ _ _ _ r h => by simp [spec_FitsOn.j0] at h
 | k + 1 => by
  have ih0 := spec_FitsOn.mono_l k
  ·intro y0 y1 y2 y3 y4 y5 y6 y7 y8 y9 y10
   unfold spec_FitsOn.j0
   repeat' first
   | (with_reducible exact ih0 _ _ _ _ _ _ _ _ _ _ _)
   | (with_reducible exact spec_IsRules.mono _ _ _ _ _ _ _ _ _)
   | (with_reducible exact spec_Matches.mono _ _ _)
   | (with_reducible exact LeO.refl _)
   | (with_reducible exact LeO.none _)
   | (with_reducible refine LeO.ite ?_ ?_)
   | (with_reducible refine LeO.bind ?_ (fun _ => ?_))
   | exact ih0 _ _ _ _ _ _ _ _ _ _ _
   | exact spec_IsRules.mono _ _ _ _ _ _ _ _ _
   | exact spec_Matches.mono _ _ _
   | exact LeO.none _
   | refine LeO.ite ?_ ?_
   | refine LeO.bind ?_ (fun _ => ?_)
theorem spec_FitsOn.mono : ∀ a0 a1 a2 a3 a4 a5 a6 a7 a8 a9 k, LeO (spec_FitsOn.f k a0 a1 a2 a3 a4 a5 a6 a7 a8 a9) (spec_FitsOn.f (k + 1) a0 a1 a2 a3 a4 a5 a6 a7 a8 a9) := by
 intro a0 a1 a2 a3 a4 a5 a6 a7 a8 a9 k
 have ih0 := spec_FitsOn.mono_l k
 unfold spec_FitsOn.f
 repeat' first
   | (with_reducible exact ih0 _ _ _ _ _ _ _ _ _ _ _)
   | (with_reducible exact spec_IsRules.mono _ _ _ _ _ _ _ _ _)
   | (with_reducible exact spec_Matches.mono _ _ _)
   | (with_reducible exact LeO.refl _)
   | (with_reducible exact LeO.none _)
   | (with_reducible refine LeO.ite ?_ ?_)
   | (with_reducible refine LeO.bind ?_ (fun _ => ?_))
   | exact ih0 _ _ _ _ _ _ _ _ _ _ _
   | exact spec_IsRules.mono _ _ _ _ _ _ _ _ _
   | exact spec_Matches.mono _ _ _
   | exact LeO.none _
   | refine LeO.ite ?_ ?_
   | refine LeO.bind ?_ (fun _ => ?_)
set_option maxHeartbeats 8000000 in
set_option maxRecDepth 100000 in
theorem spec_FitsOn.calls (k : Nat) (a0_0 : Int) (a0_1 : Int) (a0_2 : Bool) (a0_3 : Bool) (A0_4 : Option Addr) (c0_4 : Nat) (l0_4 : List Int) (A0_5 : Option Addr) (c0_5 : Nat) (l0_5 : List Int) (a0_6 : Int) (a0_7 : Int) (a1 : Int) (a2 : Int) (r : Bool) (w : World) (hr0_4 : Kd.C (Kd.int .i64) w A0_4 l0_4.length l0_4) (hc0_4 : l0_4.length ≤ c0_4) (hr0_5 : Kd.C (Kd.int .i64) w A0_5 l0_5.length l0_5) (hc0_5 : l0_5.length ≤ c0_5) (h : spec_FitsOn.f k a0_0 a0_1 a0_2 a0_3 l0_4 l0_5 a0_6 a0_7 a1 a2 = some r) :
  Calls Try.prog 28 #[.agg #[.int .i64 a0_0,.int .i64 a0_1,.bool a0_2,.bool a0_3,.slice A0_4 l0_4.length c0_4,.slice A0_5 l0_5.length c0_5,.int .i64 a0_6,.int .i64 a0_7],.int .i64 a1,.int .i64 a2] w fun e w' => e = .returned (.bool r) ∧ Below w.heap.size w w' := by
 have hu30 := Try.underlying30
 have HR0_4 := QO hr0_4
 have HC0_4 := QO hc0_4
 clear hr0_4 hc0_4
 have HR0_5 := QO hr0_5
 have HC0_5 := QO hc0_5
 clear hr0_5 hc0_5
 have HB := QO (Below.refl w.heap.size w)
 have H : ((spec_IsRules.f k a0_0 a0_1 a0_2 a0_3 l0_4 l0_5 a0_6 a0_7).bind fun t218 => (if t218 = true then ((spec_IsCard.f a1).bind fun t219 => (if t219 = true then ((spec_IsCard.f a2).bind fun t220 => (spec_FitsOn.j0 k a1 a2 (!t220) a0_0 a0_1 a0_2 a0_3 l0_4 l0_5 a0_6 a0_7)) else (spec_FitsOn.j0 k a1 a2 true a0_0 a0_1 a0_2 a0_3 l0_4 l0_5 a0_6 a0_7))) else (spec_FitsOn.j0 k a1 a2 true a0_0 a0_1 a0_2 a0_3 l0_4 l0_5 a0_6 a0_7))) = some r := h
 clear h
 have HC4 := QO H
 clear H
 go_enter Try.func28,Try.ntmps28
 go_upto_region 1 with (first | ((with_reducible refine gate_dst (N := 3) rfl ?_); refine box_event ?hg (N := 3) ?hd (cs := #[.int .i64 a0_0,.int .i64 a0_1,.bool a0_2,.bool a0_3,.slice A0_4 l0_4.length c0_4,.slice A0_5 l0_5.length c0_5,.int .i64 a0_6,.int .i64 a0_7]) (t := 30) ?hr ?_; (case hd => rfl); (case hg => rfl); (case hr => first | (go_simp; done) | (go_simp; rfl)); intro gb217 hg w5 hbox hb; have n0_ := QO (below_step (by repeat (first | (with_reducible first | exact HB.out | apply QE | apply QB | apply QC) | exact HB.out)) hb); have n1_ := QO (hbox); have n2_ := QO ((by rw [hg]; exact (QJ (by repeat (first | (with_reducible first | exact HB.out | apply QE | apply QB | apply QC) | exact HB.out))) : w.heap.size ≤ gb217)); have n3_ := QO ((by rw [hg]; exact (QJ (by repeat (first | (with_reducible first | exact HB.out | apply QE | apply QB | apply QC) | exact HB.out))) : w.heap.size ≤ gb217)); clear HB; revert n0_ n1_ n2_ n3_; intro HB BK217 GW217 GE217; clear hb hbox hg))
 (try simp only [Act.put,QL,QM,QN])
 go_cut [19] (fun v19 wc => ∃ (kq : Nat) (x19_3 : Bool),v19 = .bool x19_3 ∧ Aside0 (spec_FitsOn.j0 kq a1 a2 x19_3 a0_0 a0_1 a0_2 a0_3 l0_4 l0_5 a0_6 a0_7 = some r) ∧ Aside0 (kq ≤ k) ∧ Aside0 (wc.heap[gb217]? = some (.cells #[.int .i64 a0_0,.int .i64 a0_1,.bool a0_2,.bool a0_3,(.slice A0_4 l0_4.length c0_4),(.slice A0_5 l0_5.length c0_5),.int .i64 a0_6,.int .i64 a0_7] 30 (0,0))) ∧ Aside0 (Below w.heap.size w wc))
 case first =>
  have H := HC4.out
  clear HC4
  replace H := QP.mp H
  obtain ⟨t218,A60,H⟩ := H
  have A6 := QO A60
  clear A60
  by_cases c7 : t218 = true
  rotate_left
  replace c7 := Bool.eq_false_iff.mpr c7
  subst c7
  rw [if_neg (show ¬ (false = true) by decide)] at H
  have H' := QO H
  clear H
  rotate_right
  subst c7
  rw [if_pos rfl] at H
  replace H := QP.mp H
  obtain ⟨t219,A80,H⟩ := H
  have A8 := QO A80
  clear A80
  by_cases c9 : t219 = true
  rotate_left
  replace c9 := Bool.eq_false_iff.mpr c9
  subst c9
  rw [if_neg (show ¬ (false = true) by decide)] at H
  have H' := QO H
  clear H
  rotate_right
  subst c9
  rw [if_pos rfl] at H
  replace H := QP.mp H
  obtain ⟨t220,A100,H⟩ := H
  have A10 := QO A100
  clear A100
  have H' := QO H
  clear H
  all_goals
   have hcz11_0 : w5.cell? ⟨gb217,0,none⟩ = some (.int .i64 a0_0) := (QK BK217.out 0).trans rfl
   have hcz11_1 : w5.cell? ⟨gb217,1,none⟩ = some (.int .i64 a0_1) := (QK BK217.out 1).trans rfl
   have hcz11_2 : w5.cell? ⟨gb217,2,none⟩ = some (.bool a0_2) := (QK BK217.out 2).trans rfl
   have hcz11_3 : w5.cell? ⟨gb217,3,none⟩ = some (.bool a0_3) := (QK BK217.out 3).trans rfl
   have hcz11_4 : w5.cell? ⟨gb217,4,none⟩ = some (.slice A0_4 l0_4.length c0_4) := (QK BK217.out 4).trans rfl
   have hcz11_5 : w5.cell? ⟨gb217,5,none⟩ = some (.slice A0_5 l0_5.length c0_5) := (QK BK217.out 5).trans rfl
   have hcz11_6 : w5.cell? ⟨gb217,6,none⟩ = some (.int .i64 a0_6) := (QK BK217.out 6).trans rfl
   have hcz11_7 : w5.cell? ⟨gb217,7,none⟩ = some (.int .i64 a0_7) := (QK BK217.out 7).trans rfl
   have hfz11_0 := QI BK217.out 0
   have hfz11_1 := QI BK217.out 1
   have hfz11_2 := QI BK217.out 2
   have hfz11_3 := QI BK217.out 3
   have hfz11_4 := QI BK217.out 4
   have hfz11_5 := QI BK217.out 5
   have hfz11_6 := QI BK217.out 6
   have hfz11_7 := QI BK217.out 7
   go_wp2_with (first | ((with_reducible refine gate_callee (f := 35) rfl ?_); refine goesL_ (some 8) rfl rfl Try.func35 (by kernel_rfl) rfl #[.agg #[.int .i64 a0_0,.int .i64 a0_1,.bool a0_2,.bool a0_3,.slice A0_4 l0_4.length c0_4,.slice A0_5 l0_5.length c0_5,.int .i64 a0_6,.int .i64 a0_7]] rfl (by (try simp only [List.map_toArray,List.map_cons,List.map_nil]); first | done | rfl | (simp only [List.length_drop,List.length_take]; rfl)) ?_; (with_reducible refine (spec_IsRules.calls k a0_0 a0_1 a0_2 a0_3 _ _ l0_4 _ _ l0_5 a0_6 a0_7 _ _ ?side1 ?side2 ?side3 ?side4 A6.out).mono ?_); (case side1 => repeat (first | exact (Kd.C_below HR0_4.out HB.out) | (with_reducible refine Kd.C_alloc ?_ _) | (with_reducible refine Kd.C_drewN ?_ _) | (with_reducible refine Kd.C_drew ?_))); (case side2 => exact HC0_4.out); (case side3 => repeat (first | exact (Kd.C_below HR0_5.out HB.out) | (with_reducible refine Kd.C_alloc ?_ _) | (with_reducible refine Kd.C_drewN ?_ _) | (with_reducible refine Kd.C_drew ?_))); (case side4 => exact HC0_5.out); rintro e w12 ⟨rfl,hb⟩; refine ⟨_,rfl,?_⟩; have n0_ := QO (blk_below (g := gb217) (o := .cells #[.int .i64 a0_0,.int .i64 a0_1,.bool a0_2,.bool a0_3,.slice A0_4 l0_4.length c0_4,.slice A0_5 l0_5.length c0_5,.int .i64 a0_6,.int .i64 a0_7] 30 (0,0)) (by (with_reducible repeat (first | refine blk_drewN ?_ _ | refine blk_drew ?_ | refine blk_alloc ?_ _)); exact BK217.out) hb); have n1_ := QO (below_step (by repeat (first | (with_reducible first | exact HB.out | apply QE | apply QB | apply QC | refine below_set ?_ GE217.out) | exact HB.out)) hb); clear BK217; clear HB; revert n0_ n1_; intro BK217 HB; (try clear hb); (try clear hb2); (try clear hk); (try clear hi)) | (go_at_call 29; (with_reducible refine (spec_IsCard.calls a1 _ _ A8.out).mono ?_); rintro e w' ⟨rfl,⟨nd,rfl⟩⟩) | (go_at_call 29; (with_reducible refine (spec_IsCard.calls a2 t220 _ A10.out).mono ?_); rintro e w' ⟨rfl,⟨nd,rfl⟩⟩))
   go_meet
   case rel => exact ⟨_,_,(by first | rfl | (simp; done) | (simp [*]; done)),H',⟨by first | omega | exact Nat.le_refl _⟩,⟨by (with_reducible repeat (first | refine blk_drewN ?_ _ | refine blk_drew ?_ | refine blk_alloc ?_ _)); exact BK217.out⟩,⟨by repeat (first | (with_reducible first | exact HB.out | apply QE | apply QB | apply QC | refine below_set ?_ GE217.out) | exact HB.out)⟩⟩
 case rest =>
  clear HC4
  try clear c2
  try clear p2
  try clear c3
  try clear c7
  try clear c9
  try clear hcz11_0 hcz11_1 hcz11_2 hcz11_3 hcz11_4 hcz11_5 hcz11_6 hcz11_7
  try clear hcz13_0 hcz13_1 hcz13_2 hcz13_3 hcz13_4 hcz13_5 hcz13_6 hcz13_7
  try clear hcz15_0 hcz15_1 hcz15_2 hcz15_3 hcz15_4 hcz15_5 hcz15_6 hcz15_7
  try clear hfz11_0 hfz11_1 hfz11_2 hfz11_3 hfz11_4 hfz11_5 hfz11_6 hfz11_7
  try clear hfz13_0 hfz13_1 hfz13_2 hfz13_3 hfz13_4 hfz13_5 hfz13_6 hfz13_7
  try clear hfz15_0 hfz15_1 hfz15_2 hfz15_3 hfz15_4 hfz15_5 hfz15_6 hfz15_7
  obtain ⟨kq,x19_3,rfl,HA,HJ3,BK217,HB⟩ := hcut
  cases kq with
  | zero => exact absurd HA.out (by simp [spec_FitsOn.j0])
  | succ kj3 =>
   have H := HA.out
   clear HA
   simp only [spec_FitsOn.j0] at H
   by_cases c17 : x19_3 = true
   rotate_left
   replace c17 := Bool.eq_false_iff.mpr c17
   subst c17
   rw [if_neg (show ¬ (false = true) by decide)] at H
   by_cases c18 : a0_2 = true
   rotate_left
   replace c18 := Bool.eq_false_iff.mpr c18
   subst c18
   rw [if_neg (show ¬ (false = true) by decide)] at H
   by_cases c23 : a0_3 = true
   rotate_left
   ·replace c23 := Bool.eq_false_iff.mpr c23
    subst c23
    rw [if_neg (show ¬ (false = true) by decide)] at H
    replace H := QP.mp H
    obtain ⟨t225,A280,H⟩ := H
    have A28 := QO A280
    clear A280
    try (obtain rfl := Option.some.inj (A28.out.symm.trans A28.out))
    obtain rfl := Option.some.inj H
    have hcz43_0 : wc.cell? ⟨gb217,0,none⟩ = some (.int .i64 a0_0) := (QK BK217.out 0).trans rfl
    have hcz43_1 : wc.cell? ⟨gb217,1,none⟩ = some (.int .i64 a0_1) := (QK BK217.out 1).trans rfl
    have hcz43_2 : wc.cell? ⟨gb217,2,none⟩ = some (.bool false) := (QK BK217.out 2).trans rfl
    have hcz43_3 : wc.cell? ⟨gb217,3,none⟩ = some (.bool false) := (QK BK217.out 3).trans rfl
    have hcz43_4 : wc.cell? ⟨gb217,4,none⟩ = some (.slice A0_4 l0_4.length c0_4) := (QK BK217.out 4).trans rfl
    have hcz43_5 : wc.cell? ⟨gb217,5,none⟩ = some (.slice A0_5 l0_5.length c0_5) := (QK BK217.out 5).trans rfl
    have hcz43_6 : wc.cell? ⟨gb217,6,none⟩ = some (.int .i64 a0_6) := (QK BK217.out 6).trans rfl
    have hcz43_7 : wc.cell? ⟨gb217,7,none⟩ = some (.int .i64 a0_7) := (QK BK217.out 7).trans rfl
    have hfz43_0 := QI BK217.out 0
    have hfz43_1 := QI BK217.out 1
    have hfz43_2 := QI BK217.out 2
    have hfz43_3 := QI BK217.out 3
    have hfz43_4 := QI BK217.out 4
    have hfz43_5 := QI BK217.out 5
    have hfz43_6 := QI BK217.out 6
    have hfz43_7 := QI BK217.out 7
    go_wp2_with (first | (go_at_call 40; (with_reducible refine (spec_Matches.calls kj3 _ _ l0_4 a2 t225 _ ?side1 ?side2 A28.out).mono ?_); (case side1 => repeat (first | exact (Kd.C_below HR0_4.out HB.out) | (with_reducible refine Kd.C_alloc ?_ _) | (with_reducible refine Kd.C_drewN ?_ _) | (with_reducible refine Kd.C_drew ?_))); (case side2 => exact HC0_4.out); rintro e w44 ⟨rfl,hb⟩; have n0_ := QO (blk_below (g := gb217) (o := .cells #[.int .i64 a0_0,.int .i64 a0_1,.bool false,.bool false,.slice A0_4 l0_4.length c0_4,.slice A0_5 l0_5.length c0_5,.int .i64 a0_6,.int .i64 a0_7] 30 (0,0)) (by (with_reducible repeat (first | refine blk_drewN ?_ _ | refine blk_drew ?_ | refine blk_alloc ?_ _)); exact BK217.out) hb); have n1_ := QO (below_step (by repeat (first | (with_reducible first | exact HB.out | apply QE | apply QB | apply QC | refine below_set ?_ GE217.out) | exact HB.out)) hb); clear BK217; clear HB; revert n0_ n1_; intro BK217 HB; (try clear hb); (try clear hb2); (try clear hk); (try clear hi)))
    go_ret
    exact ⟨by first | rfl | (simp [errW_none,errW_some] <;> rfl) | (simp [*,errW_none,errW_some] <;> rfl),by repeat (first | (with_reducible first | exact HB.out | apply QE | apply QB | apply QC | refine below_set ?_ GE217.out) | exact HB.out)⟩
   rotate_right
   subst c23
   rw [if_pos rfl] at H
   replace H := QP.mp H
   obtain ⟨t223,A240,H⟩ := H
   have A24 := QO A240
   clear A240
   try (obtain rfl := Option.some.inj (A24.out.symm.trans A24.out))
   replace H := QP.mp H
   obtain ⟨t224,A250,H⟩ := H
   have A25 := QO A250
   clear A250
   try (obtain rfl := Option.some.inj (A25.out.symm.trans A25.out))
   by_cases c26 : t223 = t224
   rotate_left
   rw [if_neg c26] at H
   have c26b0 : (t223 == t224) = false := beq_eq_false_iff_ne.mpr c26
   have c26b1 : (t223 != t224) = true := bne_iff_ne.mpr c26
   replace H := QP.mp H
   obtain ⟨t225,A280,H⟩ := H
   have A28 := QO A280
   clear A280
   try (obtain rfl := Option.some.inj (A28.out.symm.trans A31.out))
   obtain rfl := Option.some.inj H
   rotate_right
   rw [if_pos c26] at H
   have c26b0 : (t223 == t224) = true := beq_iff_eq.mpr c26
   have c26b1 : (t223 != t224) = false := bne_eq_false_iff_eq.mpr c26
   clear c26
   obtain rfl := Option.some.inj H
   rotate_right
   subst c18
   rw [if_pos rfl] at H
   replace H := QP.mp H
   obtain ⟨t221,A190,H⟩ := H
   have A19 := QO A190
   clear A190
   replace H := QP.mp H
   obtain ⟨t222,A200,H⟩ := H
   have A20 := QO A200
   clear A200
   by_cases c21 : t221 = t222
   rotate_left
   rw [if_neg c21] at H
   have c21b0 : (t221 == t222) = false := beq_eq_false_iff_ne.mpr c21
   have c21b1 : (t221 != t222) = true := bne_iff_ne.mpr c21
   by_cases c23 : a0_3 = true
   rotate_left
   replace c23 := Bool.eq_false_iff.mpr c23
   subst c23
   rw [if_neg (show ¬ (false = true) by decide)] at H
   replace H := QP.mp H
   obtain ⟨t225,A280,H⟩ := H
   have A28 := QO A280
   clear A280
   try (obtain rfl := Option.some.inj (A28.out.symm.trans A28.out))
   obtain rfl := Option.some.inj H
   rotate_right
   subst c23
   rw [if_pos rfl] at H
   replace H := QP.mp H
   obtain ⟨t223,A240,H⟩ := H
   have A24 := QO A240
   clear A240
   replace H := QP.mp H
   obtain ⟨t224,A250,H⟩ := H
   have A25 := QO A250
   clear A250
   by_cases c26 : t223 = t224
   rotate_left
   rw [if_neg c26] at H
   have c26b0 : (t223 == t224) = false := beq_eq_false_iff_ne.mpr c26
   have c26b1 : (t223 != t224) = true := bne_iff_ne.mpr c26
   replace H := QP.mp H
   obtain ⟨t225,A280,H⟩ := H
   have A28 := QO A280
   clear A280
   obtain rfl := Option.some.inj H
   rotate_right
   rw [if_pos c26] at H
   have c26b0 : (t223 == t224) = true := beq_iff_eq.mpr c26
   have c26b1 : (t223 != t224) = false := bne_eq_false_iff_eq.mpr c26
   clear c26
   obtain rfl := Option.some.inj H
   rotate_right
   rw [if_pos c21] at H
   have c21b0 : (t221 == t222) = true := beq_iff_eq.mpr c21
   have c21b1 : (t221 != t222) = false := bne_eq_false_iff_eq.mpr c21
   clear c21
   obtain rfl := Option.some.inj H
   rotate_right
   ·subst c17
    rw [if_pos rfl] at H
    obtain rfl := Option.some.inj H
    go_wp2
    go_ret
    exact ⟨by first | rfl | (simp [errW_none,errW_some] <;> rfl) | (simp [*,errW_none,errW_some] <;> rfl),by repeat (first | (with_reducible first | exact HB.out | apply QE | apply QB | apply QC | refine below_set ?_ GE217.out) | exact HB.out)⟩
   all_goals
    have hcz29_0 : wc.cell? ⟨gb217,0,none⟩ = some (.int .i64 a0_0) := (QK BK217.out 0).trans rfl
    have hcz29_1 : wc.cell? ⟨gb217,1,none⟩ = some (.int .i64 a0_1) := (QK BK217.out 1).trans rfl
    have hcz29_2 : wc.cell? ⟨gb217,2,none⟩ = some (.bool _) := (QK BK217.out 2).trans rfl
    have hcz29_3 : wc.cell? ⟨gb217,3,none⟩ = some (.bool _) := (QK BK217.out 3).trans rfl
    have hcz29_4 : wc.cell? ⟨gb217,4,none⟩ = some (.slice A0_4 l0_4.length c0_4) := (QK BK217.out 4).trans rfl
    have hcz29_5 : wc.cell? ⟨gb217,5,none⟩ = some (.slice A0_5 l0_5.length c0_5) := (QK BK217.out 5).trans rfl
    have hcz29_6 : wc.cell? ⟨gb217,6,none⟩ = some (.int .i64 a0_6) := (QK BK217.out 6).trans rfl
    have hcz29_7 : wc.cell? ⟨gb217,7,none⟩ = some (.int .i64 a0_7) := (QK BK217.out 7).trans rfl
    have hfz29_0 := QI BK217.out 0
    have hfz29_1 := QI BK217.out 1
    have hfz29_2 := QI BK217.out 2
    have hfz29_3 := QI BK217.out 3
    have hfz29_4 := QI BK217.out 4
    have hfz29_5 := QI BK217.out 5
    have hfz29_6 := QI BK217.out 6
    have hfz29_7 := QI BK217.out 7
    go_wp2_with (first | (go_at_call 14; (with_reducible refine (spec_SuitOf.calls a2 t221 _ A19.out).mono ?_); rintro e w' ⟨rfl,⟨nd,rfl⟩⟩) | (go_at_call 14; (with_reducible refine (spec_SuitOf.calls a1 t222 _ A20.out).mono ?_); rintro e w' ⟨rfl,⟨nd,rfl⟩⟩) | (go_at_call 39; (with_reducible refine (spec_RankOf.calls a2 t223 _ A24.out).mono ?_); rintro e w' ⟨rfl,⟨nd,rfl⟩⟩) | (go_at_call 39; (with_reducible refine (spec_RankOf.calls a1 t224 _ A25.out).mono ?_); rintro e w' ⟨rfl,⟨nd,rfl⟩⟩) | (go_at_call 40; (with_reducible refine (spec_Matches.calls kj3 _ _ l0_4 a2 t225 _ ?side1 ?side2 A28.out).mono ?_); (case side1 => repeat (first | exact (Kd.C_below HR0_4.out (by repeat (first | (with_reducible first | exact HB.out | apply QE | apply QB | apply QC | refine below_set ?_ GE217.out) | exact HB.out))) | (with_reducible refine Kd.C_alloc ?_ _) | (with_reducible refine Kd.C_drewN ?_ _) | (with_reducible refine Kd.C_drew ?_))); (case side2 => exact HC0_4.out); rintro e w30 ⟨rfl,hb⟩; have n0_ := QO (blk_below (g := gb217) (o := .cells #[.int .i64 a0_0,.int .i64 a0_1,.bool _,.bool _,.slice A0_4 l0_4.length c0_4,.slice A0_5 l0_5.length c0_5,.int .i64 a0_6,.int .i64 a0_7] 30 (0,0)) (by (with_reducible repeat (first | refine blk_drewN ?_ _ | refine blk_drew ?_ | refine blk_alloc ?_ _)); exact BK217.out) hb); have n1_ := QO (below_step (by repeat (first | (with_reducible first | exact HB.out | apply QE | apply QB | apply QC | refine below_set ?_ GE217.out) | exact HB.out)) hb); clear BK217; clear HB; revert n0_ n1_; intro BK217 HB; (try clear hb); (try clear hb2); (try clear hk); (try clear hi)))
    go_ret
    exact ⟨by first | rfl | (simp [errW_none,errW_some] <;> rfl) | (simp [*,errW_none,errW_some] <;> rfl),by repeat (first | (with_reducible first | exact HB.out | apply QE | apply QB | apply QC | refine below_set ?_ GE217.out) | exact HB.out)⟩

end Go.Proofs.Ytdfmobcocaijpaa.QFnExactChoiceOf
