/- Written by a program of this session out of the translation. -/
import Derived.Test.YtakefijfdgpdoaaRows
import Derived.Test.YtakefijfdgpdoaaPSpliceLeastx11
import Derived.Test.YtakefijfdgpdoaaPureSpliceLeast
import Derived.WalkKit
import Derived.ProofKit
import Derived.OpenShut
import Derived.ShutString
import Derived.ChangeOld
import Derived.Below
import Derived.SizedLaws
import Derived.Test.YtakefijfdgpdoaaOpen
import Derived.Test.YtakefijfdgpdoaaWSized
namespace Go.Proofs.Ytakefijfdgpdoaa.spliceLeast
open Go.ChangeShapes Go.WideShapes Go.ChangeAt Go.RowKit
open Go.ChangeMaps (open_string shut_string)
set_option linter.unusedVariables false
theorem own : ownKnob Try.prog.godebug = none := by kernel_rfl
theorem laidOut : laidOutB Try.prog = true := by kernel_rfl
def IsRow (k : IntKind) (w : World) (a : Option Addr) (len cap : Nat) (zs : List Int) : Prop :=
  (a = none ∧ len = 0 ∧ cap = 0 ∧ zs = []) ∨
  ∃ x, a = some x ∧ len ≤ cap ∧ cap ≤ maxLen ∧ zs.length = cap ∧ (∀ i, i < zs.length → w.cell? (x.add i) = some (.int k (zs.getD i 0))) ∧ ∀ n ∈ zs, (Lit.int k n).wf = true
open Go.Proofs.Ytakefijfdgpdoaa.OpenKd Go.Proofs.Ytakefijfdgpdoaa.PSpliceLeast
open Go.Proofs.YtakefijfdgpdoaaW.PrintWords
theorem opens47 : Opens Try.prog 47 k47 (fun x => ((Lit.int .i64 x.f0).wf = true ∧ (Lit.int .i64 x.f1).wf = true)) := by
  intro H enc W base sp hd n cs x h
  obtain ⟨xs, m, _, _, hl, hlen, hf⟩ := DataW.trod_struct Try.underlying47 h
  have hl' : cs.length = 2 := by rw [hl]; kernel_rfl
  obtain ⟨a0, q0, w0⟩ := (opens_int Try.underlying3) enc W base sp hd m _ _ (field_some (hf 0 _ rfl) (by rw [hlen]; decide))
  replace q0 : Kd.K (Kd.int .i64) W a0 ((cs.drop 0).take 1) := (by have e : Try.prog.cellsOf 3 = 1 := (by kernel_rfl); rw [← e]; exact q0)
  obtain ⟨a1, q1, w1⟩ := (opens_int Try.underlying3) enc W base sp hd m _ _ (field_some (hf 1 _ rfl) (by rw [hlen]; decide))
  replace q1 : Kd.K (Kd.int .i64) W a1 ((cs.drop 1).take 1) := (by have e : Try.prog.cellsOf 3 = 1 := (by kernel_rfl); rw [← e]; exact q1)
  replace q1 : Kd.K (Kd.int .i64) W a1 (cs.drop 1) := by rw [cutLast (cs := cs) (k := 1) (s := 1) hl']; exact q1
  exact ⟨⟨a0, a1⟩, ⟨(cs.drop 0).take 1, cs.drop 1, cut1 cs 0 1, q0, q1⟩, w0, w1⟩
set_option maxHeartbeats 1000000 in
set_option maxRecDepth 100000 in
theorem lifted (os : Os) (started : os.Started) (H : Type) (enc : TypeId × Value → H) :
    ReturnsInHanded {} Try.checked os 4 .any (Rows.spliceLeastSpec.pre6 enc Try.prog Try.f4 Rows.spliceLeastRow.domain false) (Rows.spliceLeastSpec.post enc Try.prog Try.f4 false true false false) := by
  refine returnsInHanded_of_change_sized (C := Try.checked) own started (by kernel_rfl) Try.func4
    (ChangeSpec.witness6 (enc := enc) (C := Try.checked) false ⟨#[], #[.int .i64 0, .slice none 0 0, .int .i64 0, .int .i64 0], []⟩ 8 (by kernel_rfl) (by kernel_rfl) (by kernel_rfl) (by kernel_rfl)) ?_
  intro W base args ds gs before hval0 hW hcnd hsz0 _
  have hsz : (DataW.weightsEach Try.prog (Try.f4.params.toList ++ Rows.spliceLeastSpec.plain.varTypes Try.prog) (ds ++ gs)).all (· ≤ reachBytes) = true := hsz0
  have hval : ∀ (j : Nat) t v, Try.f4.params[j]? = some t → args[j]? = some v → Value.okWide Try.prog W .any base t v := hval0
  have hW' := hW
  obtain ⟨p, q, hA0, hV, rfl, hfz, hnd⟩ := hW
  have hA : DataW.TrodAll enc Try.prog W 0 (fun _ => true) true Try.f4.params.toList args.toList ds p := hA0
  rw [Try.params4] at hA hval hsz
  obtain ⟨v0, vs0, d0, ds0, p0, q0, hargs, rfl, rfl, h0, r0⟩ := trodAll_cons hA
  obtain ⟨v1, vs1, d1, ds1, p1, q1, rfl, rfl, rfl, h1, r1⟩ := trodAll_cons r0
  obtain ⟨v2, vs2, d2, ds2, p2, q2, rfl, rfl, rfl, h2, r2⟩ := trodAll_cons r1
  obtain ⟨v3, vs3, d3, ds3, p3, q3, rfl, rfl, rfl, h3, r3⟩ := trodAll_cons r2
  obtain ⟨rfl, rfl, rfl⟩ := trodAll_nil r3
  obtain rfl : args = #[v0, v1, v2, v3] := by cases args; simp_all
  obtain ⟨rfl, rfl⟩ := trodVars_none hV
  have k0 := h0
  obtain ⟨x0, K0, w0⟩ := opens_arg (opens_int Try.underlying3) h0
  obtain ⟨b0, rfl⟩ := okWide_int Try.underlying3 (hval 0 3 v0 rfl rfl)
  have e0 : [Value.int .i64 b0] = [.int .i64 x0] := K0
  obtain rfl : x0 = b0 := by simpa using e0.symm
  have k1 := h1
  obtain ⟨x1, K1, w1⟩ := opens_arg (opens_slice Try.underlying22 (by kernel_rfl) (opens_slice Try.underlying38 (by kernel_rfl) opens47)) h1
  obtain ⟨A1, l1, c1, rfl⟩ := okWide_slice Try.underlying22 (hval 1 22 v1 rfl rfl)
  obtain ⟨A1', c1', e1, hc1, hr1⟩ := K1
  simp only [Value.cells, List.cons.injEq, Value.slice.injEq, and_true] at e1
  obtain ⟨rfl, rfl, rfl⟩ := e1
  have k2 := h2
  obtain ⟨x2, K2, w2⟩ := opens_arg (opens_int Try.underlying3) h2
  obtain ⟨b2, rfl⟩ := okWide_int Try.underlying3 (hval 2 3 v2 rfl rfl)
  have e2 : [Value.int .i64 b2] = [.int .i64 x2] := K2
  obtain rfl : x2 = b2 := by simpa using e2.symm
  have k3 := h3
  obtain ⟨x3, K3, w3⟩ := opens_arg (opens_int Try.underlying3) h3
  obtain ⟨b3, rfl⟩ := okWide_int Try.underlying3 (hval 3 3 v3 rfl rfl)
  have e3 : [Value.int .i64 b3] = [.int .i64 x3] := K3
  obtain rfl : x3 = b3 := by simpa using e3.symm
  clear hA0 hval0 hsz0 hsz
  obtain ⟨k_, h_⟩ := Pure.SpliceLeast x0 x1 x2 x3 w0 w1 w2 w3
  refine (garmentlaw37_SpliceLeast.calls k_ x0 _ _ x1 x2 x3 true W hr1 hc1 h_).mono fun e W' ⟨he, bel0⟩ => ?_
  have bel := bel0
  subst he
  exact ⟨_, rfl, _, _, _, [], _, [], hW', trodAll_mk1 (shut_bool Try.underlying4 _), (trodAll_cons_mk (stays laidOut (by kernel_rfl) (of_decide_eq_true (by kernel_rfl)) k0 bel) (trodAll_cons_mk (stays laidOut (by kernel_rfl) (of_decide_eq_true (by kernel_rfl)) k1 bel) (trodAll_cons_mk (stays laidOut (by kernel_rfl) (of_decide_eq_true (by kernel_rfl)) k2 bel) (trodAll_cons_mk (stays laidOut (by kernel_rfl) (of_decide_eq_true (by kernel_rfl)) k3 bel) trodAll_mk0)))), rfl, bel.frame _, fun h => by cases h⟩
theorem over : Rows.spliceLeastRow.holds Try.pinned (OpenSpec.ofChange Rows.spliceLeastSpec) :=
  OpenClaim.holds_of_wide 4 Try.f4 rfl rfl rfl rfl rfl rfl rfl ⟨rfl, rfl, rfl, rfl, rfl⟩ rfl rfl rfl rfl rfl (by kernel_rfl) Try.func4 (by kernel_rfl)
    (of_decide_eq_true (by kernel_rfl)) (by unfold Func.isWrapper; first | (rw [if_pos (by decide +kernel)]; kernel_rfl) | (rw [if_neg (by decide +kernel)]; exact ⟨rfl, rfl⟩))
    (fun os started H enc _ => lifted os started H enc)
theorem proved : Rows.SpliceLeastSaid := over
#print axioms proved
end Go.Proofs.Ytakefijfdgpdoaa.spliceLeast
namespace Go.Proofs.Ytakefijfdgpdoaa
/-- The row, under a short name, for the claim. -/
theorem spliceLeast_holds : Rows.SpliceLeastSaid := spliceLeast.proved
end Go.Proofs.Ytakefijfdgpdoaa
