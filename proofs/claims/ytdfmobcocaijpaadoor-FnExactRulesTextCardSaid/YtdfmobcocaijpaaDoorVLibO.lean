/- Arguments opened: what a datum that is read says of memory, for whole numbers, bools, slices and structs. No condition of its own. -/
import Derived.Test.YtdfmobcocaijpaaDoorVLib
import Derived.Deep.Slices
namespace Go.Proofs.YtdfmobcocaijpaaDoor.Lib
open Go.RowKit Go.ChangeShapes Go.WideShapes Go.Proofs.YtdfmobcocaijpaaDoorW.PrintWords Go.Proofs.YtdfmobcocaijpaaDoorW.PrintLast Go.Proofs.YtdfmobcocaijpaaDoorW.PrintMore
set_option linter.unusedVariables false
set_option linter.unusedSimpArgs false

/-- Whatever is read at type t lies in memory as the kind d says, and meets ok. -/
def Opens {α : Type} (P : Program) (t : TypeId) (d : Kd α) (ok : α → Prop) : Prop :=
  ∀ {H : Type} {enc : TypeId × Value → H} {w : World} {base : Nat} {spare : Nat → Bool} {held : Bool} {fuel : Nat} {cs : List Value} {x : DataW H × List MemPlace},
    DataW.trod enc P w base spare held fuel t cs = some x → ∃ p : α, d.K w p cs ∧ ok p
def OpensF {α : Type} (P : Program) (fs : List Field) (off : Nat) (d : Kd α) (ok : α → Prop) : Prop :=
  ∀ {H : Type} {enc : TypeId × Value → H} {w : World} {base : Nat} {spare : Nat → Bool} {held : Bool} {n : Nat} {cs : List Value},
    (∀ f ∈ fs, ∃ y, DataW.trod enc P w base spare held n f.type ((cs.drop f.offset).take (P.cellsOf f.type)) = some y) → cs.length = off + d.sz → ∃ p : α, d.K w p (cs.drop off) ∧ ok p

section
variable {P : Program} {t e : TypeId}
theorem opens_int {k : IntKind} (h : P.underlying t = some (.int k)) : Opens P t (Kd.int k) (fun n => (Lit.int k n).wf = true) := by
  intro H enc w base spare held fuel cs x hx
  obtain ⟨n, rfl, _, hw⟩ := DataW.trod_int h hx
  exact ⟨n, rfl, hw⟩
theorem opens_bool (h : P.underlying t = some .bool) : Opens P t Kd.bool (fun _ => True) := by
  intro H enc w base spare held fuel cs x hx
  obtain ⟨b, rfl, _⟩ := DataW.trod_bool h hx
  exact ⟨b, rfl, trivial⟩
theorem list_of_each {α : Type} {Q : Nat → α → Prop} (n : Nat) (h : ∀ i, i < n → ∃ p, Q i p) : ∃ ps : List α, ps.length = n ∧ ∀ (j : Nat) (p : α), ps[j]? = some p → Q j p := by
  induction n with
  | zero => exact ⟨[], rfl, fun j p hj => by simp at hj⟩
  | succ n ih =>
    obtain ⟨ps, hl, hp⟩ := ih (fun i hi => h i (by omega))
    obtain ⟨p, hq⟩ := h n (by omega)
    refine ⟨ps ++ [p], by simp [hl], fun j q hj => ?_⟩
    rcases Nat.lt_or_ge j ps.length with hlt | hge
    · rw [List.getElem?_append_left hlt] at hj
      exact hp j q hj
    · have hlt := (List.getElem?_eq_some_iff.1 hj).1
      simp at hlt
      obtain rfl : j = n := by omega
      rw [List.getElem?_append_right hge] at hj
      simp [hl] at hj
      exact hj ▸ hq
theorem opens_slice {α : Type} {d : Kd α} {ok : α → Prop} (ht : P.underlying t = some (.slice e)) (hs : P.cellsOf e = d.sz) (he : Opens P e d ok) :
    Opens P t (Kd.slice e d) (fun xs => xs.length ≤ maxLen ∧ ∀ y ∈ xs, ok y) := by
  intro H enc w base spare held fuel cs x hx
  rcases Go.Deep.open_slice ht hx with ⟨rfl, _⟩ | ⟨a, len, cap, m, n, D, Pl, rfl, hb, hl, hm, hmm, _, hel⟩
  · exact ⟨[], ⟨none, 0, rfl, Nat.le_refl _, rfl, by simp, fun h => absurd h (by simp)⟩, by simp, by simp⟩
  · have hlm : len ≤ m := by subst hmm; split <;> omega
    have each : ∀ i, i < len → ∃ p : α, (∃ c, c.length = d.sz ∧ d.K w p c ∧ ∀ (j : Nat) (u : Value), c[j]? = some u → w.cell? (a.add (i * d.sz + j)) = some u) ∧ ok p := by
      intro i hi
      obtain ⟨cs', h1, h2⟩ := hel i (by omega)
      rw [hs] at h1
      obtain ⟨p, hK, hok⟩ := he h2
      obtain ⟨_, hlen, hc⟩ := World.cells?_some h1
      refine ⟨p, ⟨cs', hlen, hK, fun j u hu => ?_⟩, hok⟩
      have hj := (List.getElem?_eq_some_iff.1 hu).1
      have := hc j (by omega)
      rw [Go.Deep.add_add] at this
      rw [this, hu]
    obtain ⟨ps, hpl, hps⟩ := list_of_each len each
    subst hpl
    have hml : maxLen ≤ 9223372036854775807 := by simp [maxLen]
    refine ⟨ps, ⟨some a, cap, rfl, hl, rfl, by omega, fun _ => ⟨a, rfl, fun j p hj => (hps j p hj).1⟩⟩, by omega, fun y hy => ?_⟩
    obtain ⟨j, hj, rfl⟩ := List.mem_iff_getElem.1 hy
    exact (hps j _ (List.getElem?_eq_getElem hj)).2
theorem opens_iso {α β : Type} {d : Kd α} {ok : α → Prop} (h : Opens P t d ok) {f : β → α} (g : α → β) (hg : ∀ a, f (g a) = a) : Opens P t (Kd.iso d f) (fun x => ok (f x)) := by
  intro H enc w base spare held fuel cs x hx
  obtain ⟨p, hK, hok⟩ := h hx
  refine ⟨g p, ?_, by show ok (f (g p)); rw [hg]; exact hok⟩
  show d.K w (f (g p)) cs
  rw [hg]
  exact hK
theorem opensF_last {α : Type} {d : Kd α} {ok : α → Prop} {f : Field} {off : Nat} (ho : f.offset = off) (hs : P.cellsOf f.type = d.sz) (h : Opens P f.type d ok) : OpensF P [f] off d ok := by
  intro H enc w base spare held n cs hf hl
  obtain ⟨y, hy⟩ := hf f (by simp)
  rw [ho, hs, List.take_of_length_le (by simp; omega)] at hy
  exact h hy
theorem opensF_cons {α β : Type} {d : Kd α} {d' : Kd β} {ok : α → Prop} {ok' : β → Prop} {f : Field} {fs : List Field} {off : Nat} (ho : f.offset = off) (hs : P.cellsOf f.type = d.sz) (h : Opens P f.type d ok)
    (h' : OpensF P fs (off + d.sz) d' ok') : OpensF P (f :: fs) off (Kd.pair d d') (fun x => ok x.1 ∧ ok' x.2) := by
  intro H enc w base spare held n cs hf hl
  have hl' : cs.length = off + (d.sz + d'.sz) := hl
  obtain ⟨y, hy⟩ := hf f (by simp)
  rw [ho, hs] at hy
  obtain ⟨p, hK, hok⟩ := h hy
  obtain ⟨p', hK', hok'⟩ := h' (cs := cs) (fun g hg => hf g (by simp [hg])) (by omega)
  refine ⟨(p, p'), ⟨_, _, ?_, hK, hK'⟩, hok, hok'⟩
  rw [← List.drop_drop, List.take_append_drop]
theorem opens_struct {α : Type} {d : Kd α} {ok : α → Prop} {fs : Array Field} (ht : P.underlying t = some (.struct fs)) (hs : P.cellsOf t = d.sz) (h : OpensF P fs.toList 0 d ok) : Opens P t d ok := by
  intro H enc w base spare held fuel cs x hx
  obtain ⟨xs, n, rfl, _, hl, hxl, hf⟩ := DataW.trod_struct ht hx
  obtain ⟨p, hK, hok⟩ := h (H := H) (enc := enc) (w := w) (base := base) (spare := spare) (held := held) (n := n) (cs := cs) (fun f hfm => by
    obtain ⟨i, hi, rfl⟩ := List.mem_iff_getElem.1 hfm
    have h1 := hf i (fs.toList[i]) (by simp)
    simp at hi
    rw [List.getElem?_eq_getElem (by omega)] at h1
    exact ⟨_, h1⟩) (by rw [hl, hs]; omega)
  exact ⟨p, by simpa using hK, hok⟩
end
end Go.Proofs.YtdfmobcocaijpaaDoor.Lib
