/- Short names for steps of the print: a row in other blocks stays, where a cell is set; operations that are not wanted, many at once. No condition beyond what each names. -/
import Derived.Test.YtdfmobcocaijpaaDoorVMore
import Derived.Test.YtdfmobcocaijpaaDoorVTab
namespace Go.Proofs.YtdfmobcocaijpaaDoorW.PrintMore
open Go.RowKit Go.Proofs.YtdfmobcocaijpaaDoorW.PrintWords Go.Proofs.YtdfmobcocaijpaaDoorW.PrintLast
theorem far_r {α : Type} {d : Kd α} {e base : Nat} {w : World} {ok : Nat → Prop} {v : Value} {xs : List α} {g i : Nat} {u : Value} (h : d.R e w base (fun k => ok k ∧ k ≠ g) v xs) : d.R e (w.setCell ⟨g, i, none⟩ u) base (fun k => ok k ∧ k ≠ g) v xs := Kd.R_far h (fun _ hk => hk.2) u
theorem far_s {α : Type} {d : Kd α} {e base : Nat} {w : World} {ok : Nat → Prop} {v : Value} {xs : List α} {g i : Nat} {u : Value} (h : Kd.S d e w base (fun k => ok k ∧ k ≠ g) v xs) : Kd.S d e (w.setCell ⟨g, i, none⟩ u) base (fun k => ok k ∧ k ≠ g) v xs := Kd.S_far h (fun _ hk => hk.2) u
end Go.Proofs.YtdfmobcocaijpaaDoorW.PrintMore
namespace Go.Proofs.YtdfmobcocaijpaaDoorW.PrintLast
open Go.RowKit
/-- What has come up, as the bits of a number. -/
def bits : Nat → Nat → List Bool
  | 0, _ => []
  | n + 1, b => (b % 2 == 1) :: bits n (b / 2)
def ab (n b : Nat) : Array Bool := ⟨bits n b⟩
/-- Operations that are not wanted, one behind the other: the act behind them, and what is asked. -/
def skA : List (Nat × Nat) → Act → Act
  | [], a => a
  | x :: r, a => skA r (a.put (some x.2) undef)
def skOk (ops : Array Oper) : List (Nat × Nat) → Act → Bool
  | [], _ => true
  | x :: r, a => (match ops[x.1]? with | some o => o.dst == some x.2 && !Region.wanted o (yielded ops a.tmps) | none => false) && skOk ops r (a.put (some x.2) undef)
def skT (T : Bool × List (List Nat × List Nat)) : List (Nat × Nat) → List Bool → List Bool → Bool
  | [], l, l' => l == l'
  | x :: r, l, l' => T.1 && freeT T.2 l x.1 && readyAt T.2 l x.1 && skT T r (l.set x.1 true) l'
theorem skips_ {P : Program} {ops : Array Oper} {Q : Exit → Act → World → Prop} {md : Region.Mode} {S : World → Prop} {ds : List Nat} {T : Bool × List (List Nat × List Nat)} {w : World} (hT : rtab md ops = T) (hQ : ∀ c a (n : Nat) w, Q (.panic c) (a.put (some n) undef) w → Q (.panic c) a w) (l' : Array Bool) (fuel : Nat) {a' : Act} :
    ∀ (js : List (Nat × Nat)) (n : Nat) (l : Array Bool) (a : Act), n = fuel + js.length → skT T js l.toList l'.toList = true → skOk ops js a = true → skA js a = a' → wpAnyLast P md ops Q S ds fuel l' a' w → wpAnyLast P md ops Q S ds n l a w
  | [], n, l, a, hn, ht, _, ha, h => by
    obtain rfl : l = l' := Array.toList_inj.mp (by simpa [skT] using ht)
    subst hn; subst ha; exact h
  | x :: r, n, l, a, hn, ht, hs, ha, h => by
    simp only [skT, Bool.and_eq_true] at ht
    obtain ⟨⟨⟨t1, t2⟩, t3⟩, t4⟩ := ht
    simp only [skOk, Bool.and_eq_true] at hs
    obtain ⟨s1, s2⟩ := hs
    cases hi : ops[x.1]? with
    | none => rw [hi] at s1; simp at s1
    | some o =>
      rw [hi] at s1
      simp only [Bool.and_eq_true, beq_iff_eq, Bool.not_eq_true'] at s1
      subst hn
      refine pure_ (i := x.1) (N := some x.2) (v := undef) (a' := a.put (some x.2) undef) (l.setIfInBounds x.1 true) hi s1.1 (any_of hT ?_) (fun c a w hp => hQ c a x.2 w (s1.1 ▸ hp)) (Or.inr ⟨s1.2, rfl⟩) rfl (skips_ hT hQ l' fuel r (fuel + r.length) (l.setIfInBounds x.1 true) (a.put (some x.2) undef) rfl (by simpa using t4) s2 ha h)
      simp [anyT, t1, t2, t3]
/-- join_ with its parts the other way round: what leads to the state first, what follows it behind. -/
theorem nioj_ {P : Program} {ops : Array Oper} {Q : Exit → Act → World → Prop} {md : Region.Mode} {S : World → Prop} {ds : List Nat} {σ : Type} {fuel : Nat} {l : Array Bool} {a : Act} {w : World} (fuel' : Nat) (l' : Array Bool) (ns : σ → List (Tmp × Value)) (F : σ → World → Prop)
    (h : (∀ s w', F s w' → wpAnyLast P md ops Q S ds fuel' l' (putAll a (ns s)) w') → wpAnyLast P md ops Q S ds fuel l a w)
    (hcont : ∀ s w', F s w' → wpAnyLast P md ops Q S ds fuel' l' (putAll a (ns s)) w') : wpAnyLast P md ops Q S ds fuel l a w := h hcont
theorem ba_size (a : Array UInt8) : (ByteArray.mk a).size = a.size := rfl
end Go.Proofs.YtdfmobcocaijpaaDoorW.PrintLast
