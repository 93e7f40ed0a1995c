/- OverlapCrosses: the row of this statement, proved for every input, without conditions. Written by a program of mine. -/
import Derived.Test.YtobgcfncnfepfaaOverlapCrossesTab
import Derived.Test.YtobgcfncnfepfaaRows
import Derived.WalkKit
import Derived.ProofKit
import Derived.SizedLaws
import Derived.Below
set_option linter.unusedVariables false
set_option linter.unusedSimpArgs false
namespace Go.Proofs.Ytobgcfncnfepfaa.overlapCrosses
open Go.ChangeShapes Go.WideShapes Go.ChangeAt Go.RowKit
set_option linter.unusedVariables false
theorem own : ownKnob Try.prog.godebug = none := by kernel_rfl
theorem laidOut : laidOutB Try.prog = true := by kernel_rfl
theorem stays {P : Program} {t : TypeId} {H : Type} {enc : TypeId × Value → H} (hl : laidOutB P = true) (hr : P.readableRec t = true) (hrow : t < P.types.size) {W W' : World} {v : Value} {d : DataW H} {ps : List MemPlace}
    (h : DataW.Trod enc P W 0 (fun _ => true) true t v d ps) (hb : Below W.heap.size W W') : DataW.Trod enc P W' 0 (fun b => decide (b < W.heap.size)) true t v d ps :=
  Below.trod hl hr hrow h hb (fun x hx => by obtain ⟨m, hm⟩ := h; exact DataW.trod_lt m _ _ _ hm x hx)
theorem shutB {P : Program} {t : TypeId} (hu : P.underlying t = some .bool) (b : Bool) {H : Type} {enc : TypeId × Value → H} {W : World} {base : Nat} {sp : Nat → Bool} {held : Bool} : DataW.Trod enc P W base sp held t (.bool b) (.lit (.bool b)) [] := ⟨1, by simp [DataW.trod, Value.cells, hu]⟩
set_option maxHeartbeats 1000000 in
set_option maxRecDepth 100000 in
theorem lifted (os : Os) (started : os.Started) (H : Type) (enc : TypeId × Value → H) :
    ReturnsInHanded {} Try.checked os 4 .any (Rows.overlapCrossesSpec.pre6 enc Try.prog Try.f4 Rows.overlapCrossesRow.domain false) (Rows.overlapCrossesSpec.post enc Try.prog Try.f4 false true false false) := by
  refine returnsInHanded_of_change_sized (C := Try.checked) own started (by kernel_rfl) Try.func4
    (ChangeSpec.witness6 (enc := enc) (C := Try.checked) false ⟨#[], #[.slice none 0 0, .int .i64 0], []⟩ 8 (by kernel_rfl) (by kernel_rfl) (by kernel_rfl) (by kernel_rfl)) ?_
  intro W base args ds gs before hval0 hW hcnd hsz0 _
  have hval : ∀ (j : Nat) t v, Try.f4.params[j]? = some t → args[j]? = some v → Value.okWide Try.prog W .any base t v := hval0
  have hW' := hW
  obtain ⟨p, q, hA0, hV, rfl, hfz, hnd⟩ := hW
  have hA : DataW.TrodAll enc Try.prog W 0 (fun _ => true) true Try.f4.params.toList args.toList ds p := hA0
  rw [show Try.f4.params.toList = [22, 3] from by kernel_rfl] at hA
  obtain ⟨v0, vs0, d0, ds0, p0, q0, hargs, rfl, rfl, h0, r0⟩ := trodAll_cons hA
  obtain ⟨v1, vs1, d1, ds1, p1, q1, rfl, rfl, rfl, h1, r1⟩ := trodAll_cons r0
  obtain ⟨rfl, rfl, rfl⟩ := trodAll_nil r1
  obtain rfl : args = #[v0, v1] := by cases args; simp_all
  obtain ⟨rfl, rfl⟩ := trodVars_none hV
  obtain ⟨x0, K0, w0⟩ := Pm.arg_opens (T := (.sl Pm.t0)) (by kernel_rfl) (by kernel_rfl) h0 (hval 0 22 v0 rfl rfl)
  obtain ⟨x1, K1, w1⟩ := Pm.arg_opens (T := Pm.tI) (by kernel_rfl) (by kernel_rfl) h1 (hval 1 3 v1 rfl rfl)
  clear hA0 hval0 hsz0
  have hp := Pl.OverlapCrosses_pure x0 x1 w0 w1
  obtain ⟨n, hn⟩ := Pm.limC_some (G := Pm.G) hp
  refine ((Pm.evF_ok (P := Try.prog) (by kernel_rfl) Pm.table n).plain 167 4 _ _ W [v0, v1] (Pm.okW W) (by rfl) hn (fun b h => h) ⟨K0, K1, trivial⟩).mono fun e W' he => ?_
  obtain ⟨us, rfl, hf, hr, _⟩ := he
  have bel : Below W.heap.size W W' := ⟨hf.os, hf.tape, hf.output, hf.size, fun k hk => hf.block k hk (fun h => h)⟩
  obtain ⟨u, rfl, hu⟩ : ∃ u, us = [u] ∧ u = .bool true := by
    match us, hr with
    | [u], ⟨h, _⟩ => exact ⟨u, rfl, Pm.bool_val h⟩
  subst hu
  exact ⟨_, rfl, _, _, _, [], _, [], hW', trodAll_mk1 (shutB (t := 4) (by kernel_rfl) true), (trodAll_cons_mk (stays laidOut (by kernel_rfl) (of_decide_eq_true (by kernel_rfl)) h0 bel) (trodAll_cons_mk (stays laidOut (by kernel_rfl) (of_decide_eq_true (by kernel_rfl)) h1 bel) (trodAll_mk0))), rfl, bel.frame _, fun h => by cases h⟩
theorem over : Rows.overlapCrossesRow.holds Try.pinned (OpenSpec.ofChange Rows.overlapCrossesSpec) :=
  OpenClaim.holds_of_wide 4 Try.f4 rfl rfl rfl rfl rfl rfl rfl ⟨rfl, rfl, rfl, rfl, rfl⟩ rfl rfl rfl rfl rfl (by kernel_rfl) Try.func4 (by kernel_rfl)
    (of_decide_eq_true (by kernel_rfl)) (by unfold Func.isWrapper; first | (rw [if_pos (by decide +kernel)]; kernel_rfl) | (rw [if_neg (by decide +kernel)]; exact ⟨rfl, rfl⟩))
    (fun os started H enc _ => lifted os started H enc)
theorem proved : Rows.OverlapCrossesSaid := over
#print axioms proved
end Go.Proofs.Ytobgcfncnfepfaa.overlapCrosses
namespace Go.Proofs.Ytobgcfncnfepfaa
/-- The row, under a short name, for the claim. -/
theorem overlapCrosses_holds : Rows.OverlapCrossesSaid := overlapCrosses.proved
end Go.Proofs.Ytobgcfncnfepfaa
