/- Written by a program of this session out of the translation. -/
import Derived.Test.YtccinkbneimmhaaRows
import Derived.Test.YtccinkbneimmhaaPPolygonCornersx14
import Derived.Test.YtccinkbneimmhaaPurePolygonCorners
import Derived.WalkKit
import Derived.ProofKit
import Derived.OpenShut
import Derived.ShutString
import Derived.ChangeOld
import Derived.Below
import Derived.SizedLaws
import Derived.Test.YtccinkbneimmhaaOpen
import Derived.Test.YtccinkbneimmhaaWSized
namespace Go.Proofs.Ytccinkbneimmhaa.polygonCorners
open Go.ChangeShapes Go.WideShapes Go.ChangeAt Go.RowKit
open Go.ChangeMaps (open_string shut_string)
set_option linter.unusedVariables false
theorem own : ownKnob Try.prog.godebug = none := by kernel_rfl
theorem laidOut : laidOutB Try.prog = true := by kernel_rfl
open Go.Proofs.Ytccinkbneimmhaa.OpenKd Go.Proofs.Ytccinkbneimmhaa.PPolygonCorners
open Go.Proofs.YtccinkbneimmhaaW.PrintWords
theorem opens30 : Opens Try.prog 30 k30 (fun x => ((Lit.int .i64 x.f0).wf = true ∧ (Lit.int .i64 x.f1).wf = true)) := by
  intro H enc W base sp hd n cs x h
  obtain ⟨xs, m, _, _, hl, hlen, hf⟩ := DataW.trod_struct Try.underlying30 h
  have hl' : cs.length = 2 := by rw [hl]; kernel_rfl
  obtain ⟨a0, q0, w0⟩ := (opens_int Try.underlying3) enc W base sp hd m _ _ (field_some (hf 0 _ rfl) (by rw [hlen]; decide))
  replace q0 : Kd.K (Kd.int .i64) W a0 ((cs.drop 0).take 1) := (by have e : Try.prog.cellsOf 3 = 1 := (by kernel_rfl); rw [← e]; exact q0)
  obtain ⟨a1, q1, w1⟩ := (opens_int Try.underlying3) enc W base sp hd m _ _ (field_some (hf 1 _ rfl) (by rw [hlen]; decide))
  replace q1 : Kd.K (Kd.int .i64) W a1 ((cs.drop 1).take 1) := (by have e : Try.prog.cellsOf 3 = 1 := (by kernel_rfl); rw [← e]; exact q1)
  replace q1 : Kd.K (Kd.int .i64) W a1 (cs.drop 1) := by rw [cutLast (cs := cs) (k := 1) (s := 1) hl']; exact q1
  exact ⟨⟨a0, a1⟩, ⟨(cs.drop 0).take 1, cs.drop 1, cut1 cs 0 1, q0, q1⟩, w0, w1⟩
set_option maxHeartbeats 1000000 in
set_option maxRecDepth 100000 in
theorem lifted (os : Os) (started : os.Started) (H : Type) (enc : TypeId × Value → H) :
    ReturnsInHanded {} Try.checked os 7 .any (Rows.polygonCornersSpec.pre6 enc Try.prog Try.f7 Rows.polygonCornersRow.domain false) (Rows.polygonCornersSpec.post enc Try.prog Try.f7 false true false false) := by
  refine returnsInHanded_of_change_sized (C := Try.checked) own started (by kernel_rfl) Try.func7
    (ChangeSpec.witness6 (enc := enc) (C := Try.checked) false ⟨#[], #[.slice none 0 0, .agg #[.int .i64 0, .int .i64 0]], []⟩ 8 (by kernel_rfl) (by kernel_rfl) (by kernel_rfl) (by kernel_rfl)) ?_
  intro W base args ds gs before hval0 hW hcnd hsz0 _
  have hsz : (DataW.weightsEach Try.prog (Try.f7.params.toList ++ Rows.polygonCornersSpec.plain.varTypes Try.prog) (ds ++ gs)).all (· ≤ reachBytes) = true := hsz0
  have hval : ∀ (j : Nat) t v, Try.f7.params[j]? = some t → args[j]? = some v → Value.okWide Try.prog W .any base t v := hval0
  have hW' := hW
  obtain ⟨p, q, hA0, hV, rfl, hfz, hnd⟩ := hW
  have hA : DataW.TrodAll enc Try.prog W 0 (fun _ => true) true Try.f7.params.toList args.toList ds p := hA0
  rw [Try.params7] at hA hval hsz
  obtain ⟨v0, vs0, d0, ds0, p0, q0, hargs, rfl, rfl, h0, r0⟩ := trodAll_cons hA
  obtain ⟨v1, vs1, d1, ds1, p1, q1, rfl, rfl, rfl, h1, r1⟩ := trodAll_cons r0
  obtain ⟨rfl, rfl, rfl⟩ := trodAll_nil r1
  obtain rfl : args = #[v0, v1] := by cases args; simp_all
  obtain ⟨rfl, rfl⟩ := trodVars_none hV
  have k0 := h0
  obtain ⟨x0, K0, w0⟩ := opens_arg (opens_slice Try.underlying22 (by kernel_rfl) opens30) h0
  obtain ⟨A0, l0, c0, rfl⟩ := okWide_slice Try.underlying22 (hval 0 22 v0 rfl rfl)
  obtain ⟨A0', c0', e0, hc0, hr0⟩ := K0
  simp only [Value.cells, List.cons.injEq, Value.slice.injEq, and_true] at e0
  obtain ⟨rfl, rfl, rfl⟩ := e0
  have k1 := h1
  obtain ⟨x1, K1, w1⟩ := opens_arg opens30 h1
  obtain ⟨cs1, rfl, _⟩ := okWide_struct Try.underlying30 (hval 1 30 v1 rfl rfl)
  have e1 := k30_open K1
  obtain ⟨cs1⟩ := cs1
  simp only [Value.cells] at e1
  subst e1
  clear hA0 hval0 hsz0 hsz
  obtain ⟨k_, h_⟩ := Pure.PolygonCorners x0 x1 w0 w1
  refine (garmentlaw11_PolygonCorners.calls k_ _ _ x0 x1.f0 x1.f1 true W hr0 hc0 h_).mono fun e W' ⟨he, bel0⟩ => ?_
  have bel := bel0
  subst he
  exact ⟨_, rfl, _, _, _, [], _, [], hW', trodAll_mk1 (shut_bool Try.underlying4 _), (trodAll_cons_mk (stays laidOut (by kernel_rfl) (of_decide_eq_true (by kernel_rfl)) k0 bel) (trodAll_cons_mk (stays laidOut (by kernel_rfl) (of_decide_eq_true (by kernel_rfl)) k1 bel) trodAll_mk0)), rfl, bel.frame _, fun h => by cases h⟩
theorem over : Rows.polygonCornersRow.holds Try.pinned (OpenSpec.ofChange Rows.polygonCornersSpec) :=
  OpenClaim.holds_of_wide 7 Try.f7 rfl rfl rfl rfl rfl rfl rfl ⟨rfl, rfl, rfl, rfl, rfl⟩ rfl rfl rfl rfl rfl (by kernel_rfl) Try.func7 (by kernel_rfl)
    (of_decide_eq_true (by kernel_rfl)) (by unfold Func.isWrapper; first | (rw [if_pos (by decide +kernel)]; kernel_rfl) | (rw [if_neg (by decide +kernel)]; exact ⟨rfl, rfl⟩))
    (fun os started H enc _ => lifted os started H enc)
theorem proved : Rows.PolygonCornersSaid := over
#print axioms proved
end Go.Proofs.Ytccinkbneimmhaa.polygonCorners
namespace Go.Proofs.Ytccinkbneimmhaa
/-- The row, under a short name, for the claim. -/
theorem polygonCorners_holds : Rows.PolygonCornersSaid := polygonCorners.proved
end Go.Proofs.Ytccinkbneimmhaa
