/- What an argument reads as: a value that can be read as data holds a Lean value, kind by kind. -/
import Derived.Deep.Slices
import Derived.ChangeOld
import Derived.WideShapes
import Derived.Carry
import Derived.Test.YtccinkbneimmhaaWWords
namespace Go.Proofs.Ytccinkbneimmhaa.OpenKd
open Go.RowKit Go.ChangeShapes Go.WideShapes Go.Deep Go.Proofs.YtccinkbneimmhaaW.PrintWords
/-- The cells of a value of type t that can be read hold a value of the kind d that meets wf. -/
def Opens (P : Program) (t : TypeId) {α : Type} (d : Kd α) (wf : α → Prop) : Prop :=
  ∀ {H : Type} (enc : TypeId × Value → H) (W : World) (base : Nat) (sp : Nat → Bool) (hd : Bool) (n : Nat) (cs : List Value) (x : DataW H × List MemPlace),
    DataW.trod enc P W base sp hd n t cs = some x → ∃ a, d.K W a cs ∧ wf a
variable {P : Program} {t e : TypeId}
theorem opens_int {k : IntKind} (h : P.underlying t = some (.int k)) : Opens P t (Kd.int k) (fun a => (Lit.int k a).wf = true) := by
  intro H enc W base sp hd n cs x hx
  obtain ⟨a, rfl, _, hw⟩ := DataW.trod_int h hx
  exact ⟨a, rfl, hw⟩
theorem list_of {α : Type} {p : Nat → α → Prop} : ∀ (n : Nat), (∀ i, i < n → ∃ x, p i x) → ∃ xs : List α, xs.length = n ∧ ∀ i x, xs[i]? = some x → p i x
  | 0, _ => ⟨[], rfl, fun i x h => by simp at h⟩
  | n + 1, h => by
    obtain ⟨xs, hl, hx⟩ := list_of n (fun i hi => h i (by omega))
    obtain ⟨y, hy⟩ := h n (by omega)
    refine ⟨xs ++ [y], by simp [hl], fun i x hi => ?_⟩
    by_cases hn : i < n
    · rw [List.getElem?_append_left (by omega)] at hi
      exact hx i x hi
    · rw [List.getElem?_append_right (by omega)] at hi
      have : i - xs.length = 0 := by
        rcases Nat.eq_zero_or_pos (i - xs.length) with h0 | h0
        · exact h0
        · rw [List.getElem?_eq_none (by simp; omega)] at hi; simp at hi
      rw [this] at hi
      simp only [List.getElem?_cons_zero, Option.some.injEq] at hi
      subst hi
      have : i = n := by omega
      subst this
      exact hy
theorem opens_slice {α : Type} {d : Kd α} {wf : α → Prop} (ht : P.underlying t = some (.slice e)) (hc : P.cellsOf e = d.sz) (o : Opens P e d wf) :
    Opens P t (Kd.slice e d) (fun l => l.length ≤ maxLen ∧ ∀ x ∈ l, wf x) := by
  intro H enc W base sp hd n cs x hx
  rcases open_slice ht hx with ⟨rfl, _⟩ | ⟨a, len, cap, m, n', D, Pl, rfl, hb, hl, hm, hmm, _, hel⟩
  · refine ⟨[], ⟨none, 0, rfl, Nat.le_refl _, rfl, by simp, fun h => absurd h (by simp)⟩, by simp, by simp⟩
  · have hlm : len ≤ m := by rw [hmm]; split <;> omega
    obtain ⟨xs, hxl, hxs⟩ := list_of (p := fun i y => ∃ c, W.cells? base (a.add (i * P.cellsOf e)) (P.cellsOf e) = some c ∧ d.K W y c ∧ wf y) len (fun i hi => by
      obtain ⟨c, h1, h2⟩ := hel i (by omega)
      obtain ⟨y, h3, h4⟩ := o enc W base sp hd n' c _ h2
      exact ⟨y, c, h1, h3, h4⟩)
    refine ⟨xs, ⟨some a, cap, by rw [hxl], by omega, rfl, by unfold maxLen at hm; omega, fun _ => ⟨a, rfl, fun j p hp => ?_⟩⟩, by omega, fun y hy => ?_⟩
    · obtain ⟨c, h1, h2, _⟩ := hxs j p hp
      obtain ⟨_, hcl, hcell⟩ := World.cells?_some h1
      refine ⟨c, by rw [hcl, hc], h2, fun i u hu => ?_⟩
      have hi : i < P.cellsOf e := by
        rcases Nat.lt_or_ge i c.length with h | h
        · omega
        · rw [List.getElem?_eq_none h] at hu; cases hu
      have := hcell i hi
      rw [Go.Deep.add_add, hc] at this
      rw [this, hu]
    · obtain ⟨i, hi, rfl⟩ := List.mem_iff_getElem.1 hy
      obtain ⟨_, _, _, h⟩ := hxs i _ (List.getElem?_eq_getElem hi)
      exact h
/-- a struct's fields, one after the other -/
theorem cut1 (cs : List Value) (k s : Nat) : cs.drop k = (cs.drop k).take s ++ cs.drop (k + s) := by
  rw [← List.drop_drop, List.take_append_drop]
theorem cutLast {cs : List Value} {k s : Nat} (h : cs.length = k + s) : cs.drop k = (cs.drop k).take s := by
  rw [List.take_of_length_le (by simp; omega)]
theorem field_some {H : Type} {enc : TypeId × Value → H} {W : World} {base : Nat} {sp : Nat → Bool} {hd : Bool} {n : Nat} {cs : List Value} {xs : List (DataW H × List MemPlace)} {i : Nat}
    (h : DataW.trod enc P W base sp hd n t cs = xs[i]?) (hi : i < xs.length) : DataW.trod enc P W base sp hd n t cs = some xs[i] := by
  rw [h, List.getElem?_eq_getElem hi]
/-- an argument -/
theorem opens_arg {α : Type} {d : Kd α} {wf : α → Prop} (o : Opens P t d wf) {H : Type} {enc : TypeId × Value → H} {W : World} {v : Value} {y : DataW H} {ps : List MemPlace}
    (h : DataW.Trod enc P W 0 (fun _ => true) true t v y ps) : ∃ a, d.K W a v.cells.toList ∧ wf a := by
  obtain ⟨n, h⟩ := h
  exact o enc W 0 _ _ n _ _ h
/-- it reads the same behind a call that leaves old memory alone -/
theorem stays {H : Type} {enc : TypeId × Value → H} (hl : laidOutB P = true) (hr : P.readableRec t = true) (hrow : t < P.types.size) {W W' : World} {v : Value} {d : DataW H} {ps : List MemPlace}
    (h : DataW.Trod enc P W 0 (fun _ => true) true t v d ps) (hb : Below W.heap.size W W') : DataW.Trod enc P W' 0 (fun b => decide (b < W.heap.size)) true t v d ps :=
  Below.trod hl hr hrow h hb (fun x hx => by obtain ⟨m, hm⟩ := h; exact DataW.trod_lt m _ _ _ hm x hx)
end Go.Proofs.Ytccinkbneimmhaa.OpenKd
