/- Short names for two steps of the print: a row in other blocks stays, where a cell is set. No condition beyond what each names. -/
import Derived.Test.YtdakhelapeojgaaVMore
namespace Go.Proofs.YtdakhelapeojgaaW.PrintMore
open Go.RowKit Go.Proofs.YtdakhelapeojgaaW.PrintWords Go.Proofs.YtdakhelapeojgaaW.PrintLast
theorem far_r {α : Type} {d : Kd α} {e base : Nat} {w : World} {ok : Nat → Prop} {v : Value} {xs : List α} {g i : Nat} {u : Value} (h : d.R e w base (fun k => ok k ∧ k ≠ g) v xs) : d.R e (w.setCell ⟨g, i, none⟩ u) base (fun k => ok k ∧ k ≠ g) v xs := Kd.R_far h (fun _ hk => hk.2) u
theorem far_s {α : Type} {d : Kd α} {e base : Nat} {w : World} {ok : Nat → Prop} {v : Value} {xs : List α} {g i : Nat} {u : Value} (h : Kd.S d e w base (fun k => ok k ∧ k ≠ g) v xs) : Kd.S d e (w.setCell ⟨g, i, none⟩ u) base (fun k => ok k ∧ k ≠ g) v xs := Kd.S_far h (fun _ hk => hk.2) u
end Go.Proofs.YtdakhelapeojgaaW.PrintMore
