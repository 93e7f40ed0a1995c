/- Words of this session's own for the printed texts: make with a length of 0 and a capacity. -/
import Derived.Test.YtccinkbneimmhaaWWords
import Derived.Test.YtccinkbneimmhaaWMore
import Derived.Test.YtccinkbneimmhaaWLast
import Derived.Test.YtccinkbneimmhaaWShare
namespace Go.Proofs.YtccinkbneimmhaaW.PrintWords.Kd
open Go.RowKit
variable {P : Program} {ops : Array Oper} {rest : List Oper} {o : Oper} {a : Act} {Q : Exit → Act → World → Prop}
variable {α : Type}
end Go.Proofs.YtccinkbneimmhaaW.PrintWords.Kd
namespace Go.Proofs.YtccinkbneimmhaaW.PrintWords
/-- A cut whose capacity is its length. -/
theorem cut_mid3 {P : Program} (t e : TypeId) (kl kh km : IntKind) {i : TypeInfo} (ht : P.underlying t = some (.slice e)) (hi : P.info? e = some i) (size : Nat) (hsz : i.size = size) (A : Option Addr) (n c : Nat) (lo hi' : Int) (h0 : 0 ≤ lo) (h1 : lo ≤ hi') (h2 : hi' ≤ n) (hc : n ≤ c) :
    ∀ W : World, (Instr.slice t (.slice A n c) (some (.int kl lo)) (some (.int kh hi')) (some (.int km hi'))).run P W = .ok (.slice (if hi'.toNat = lo.toNat then A else A.map (·.add (lo.toNat * size))) (hi'.toNat - lo.toNat) (hi'.toNat - lo.toNat)) W := by
  intro W
  have hel : P.elem t = e := by simp [Program.elem, ht]
  have hu : P.underlying t = some (.slice (P.elem t)) := by rw [hel]; exact ht
  rw [run_slice_lhm W t A n c hu kl kh km lo hi' hi' h0 h1 (by omega) (by omega), hel]
  simp [sizeOf, typeInfo, hi, hsz, sliced, Result.andThen]
end Go.Proofs.YtccinkbneimmhaaW.PrintWords
namespace Go.Proofs.YtccinkbneimmhaaW.PrintWords.Kd
open Go.RowKit
section
variable {P : Program} {ops : Array Oper} {o : Oper} {a : Act} {Q : Exit → Act → World → Prop} {Kc : Act → World → Prop}
variable {α : Type}
/-- What is appended to a cut without room: the cut itself, if nothing is appended; else a new row. -/
theorem V_full_step (d : Kd α) {w0 W : World} (base : Nat) (hw : Region.wanted o (yielded ops a.tmps) = true) (s x : Operand) (t e : TypeId) (z : Value) (bytes : Nat)
    (ho : o.op = .call { callee := .builtin .append, args := #[s, x], argTypes := #[t, t] })
    (ht : P.underlying t = some (.slice e)) (hinfo : (P.info? e).map (fun i => (i.zero, i.size, i.bytes)) = some (some z, d.sz, bytes)) (hz : z.cells.size = d.sz) (hs0 : 0 < d.sz) (hb0 : 0 < bytes)
    (xs ys : List α) (A B : Option Addr) (n m c : Nat) (ok : Nat → Prop) (hs : a.eval s = .slice A n n) (hx : a.eval x = .slice B m c)
    (HV : d.F W ok A n xs) (HR : d.C W B m ys) (hKM : ∀ x cs, d.K W x cs → d.M W W.heap.size (fun _ => False) x cs) (hfresh : ∀ k, W.heap.size ≤ k → ok k)
    (HB : Below base w0 W) (hbase : base ≤ W.heap.size) (hl : (n + m) * bytes ≤ 140737488355328)
    (h : ∀ v1 w1, V d e w1 base ok v1 (xs ++ ys) → Below base w0 w1 → W.grownBy w1 none → Kc (a.put o.dst v1) w1) :
    if Region.wanted o (yielded ops a.tmps) = true then Oper.wp P o a W Kc Q else Kc (a.put o.dst undef) W := by
  obtain ⟨i0, hi, hzz⟩ := Option.map_eq_some_iff.1 hinfo
  have hzz' := hzz
  simp only [Prod.mk.injEq] at hzz'
  obtain ⟨hz0, hz1, hz2⟩ := hzz'
  have hC := F_now HV
  have hn : xs.length = n := hC.1
  have hm : ys.length = m := HR.1
  have hlen : n + m ≤ 140737488355328 := Nat.le_trans (Nat.le_mul_of_pos_right _ hb0) hl
  rcases A with _ | ad
  · have h0 : n = 0 := by
      rcases Nat.eq_zero_or_pos n with h0 | h0
      · exact h0
      · obtain ⟨ad, h, _⟩ := hC.2.2 h0
        cases h
    subst h0
    obtain rfl : xs = [] := List.eq_nil_of_length_eq_zero hn
    refine R_append_rows_step (Rr := d.K W) d (w0 := W) W.heap.size hw s x t e z bytes ho ht hinfo hz hs0 hb0 (.slice none 0 0) [] ys B m c ok (fun _ => False) hs hx (R_nil _ _ _ _ _) HR hKM (fun _ h => h.elim) hfresh (Below.refl _ _) (Nat.le_refl _) (by simpa using hl) ?_
    intro v1 w1 hv _ hg _
    exact h v1 w1 (R_V hv) (HB.grown hg hbase (fun k hk => by simp [Value.ownBlock] at hk)) hg
  · rcases Nat.eq_zero_or_pos m with h0 | h0
    · subst h0
      obtain rfl : ys = [] := List.eq_nil_of_length_eq_zero hm
      have hrun : (Builtin.append_ #[t, t] o.type #[.slice (some ad) n n, .slice B 0 c]).run P W = .ok (.slice (some ad) n n) W := by
        rcases B with _ | bd
        · simp [Builtin.append_, run_underlying ht, sizeOf, typeInfo, hi, Builtin.lenOf, Builtin.firstCells, storeCells, loadCells, loadCellsFrom]
        · simp [Builtin.append_, run_underlying ht, sizeOf, typeInfo, hi, Builtin.lenOf, Builtin.firstCells, storeCells, loadCells, loadCellsFrom]
      rw [if_pos hw]
      unfold Oper.wp execOp
      simp only [ho, resolve, invoke, builtin, Sem.run_bind, Sem.run_pure, Result.andThen_ok, List.map_toArray, List.map_cons, List.map_nil, hs, hx, hrun]
      refine h _ _ ?_ HB (World.grownBy.refl W _)
      rw [List.append_nil]
      subst hn
      exact V_mk (Nat.le_refl _) HV
    · obtain ⟨bd, hB, _⟩ := HR.2.2 h0
      subst hB
      obtain ⟨olds, hor, hoc⟩ := ReadsRow.inner_ hC
      obtain ⟨news, hnr, hnc⟩ := ReadsRow.inner_ HR
      obtain ⟨v1, w1, hrun, h2, hg⟩ := run_append_arg_grows (P := P) W t o.type e i0 z d.sz bytes ht hi hz0 hz1 hz2 hz hs0 ad n n olds (by rw [hor.1, hn]) hoc bd m c news (by rw [hnr.1, hm]) hnc (by omega) (by simp only [maxLen]; omega) hl
      have hblk : ∀ k, v1.ownBlock = some k → W.heap.size ≤ k := own_base h2
      have step : ∀ {q : α} {cs : List Value}, d.K W q cs → d.M w1 W.heap.size (fun k => ok k ∧ some k ≠ v1.ownBlock) q cs := by
        intro q cs hq
        have h1 := d.M_move (w1 := w1) (fun k hk => hk.1.elim) (d.M_bound (hKM _ _ hq))
        exact d.M_mono (fun k hk => hk.1.elim) h1
      have hR : d.R e w1 W.heap.size ok v1 (xs ++ ys) := ⟨fun k hk => hfresh k (hblk k hk), olds ++ news, by rw [List.length_append, hn, hm]; exact h2, reps_append (hor.imp_ (fun _ _ hq => step hq)) (hnr.imp_ (fun _ _ hq => step hq))⟩
      rw [if_pos hw]
      unfold Oper.wp execOp
      simp only [ho, resolve, invoke, builtin, Sem.run_bind, Sem.run_pure, Result.andThen_ok, List.map_toArray, List.map_cons, List.map_nil, hs, hx, hrun]
      exact h v1 w1 (R_V hR) (HB.grown hg hbase (fun k hk => by cases hk)) hg
end
end Go.Proofs.YtccinkbneimmhaaW.PrintWords.Kd
namespace Go.Proofs.YtccinkbneimmhaaW.PrintLast
section
variable {P : Program} {ops : Array Oper} {Q : Exit → Act → World → Prop}
/-- A call of a function that came by a slot. -/
theorem goesv_ {oi : Oper} {N : Option Tmp} {a : Act} {w : World} {K : Act → World → Prop} {f : FuncId} {fn : Func} {c : Operand} {as : Array Operand} {ts : Array TypeId} (hf : P.funcs[f]? = some fn) (hname : (fn.name == "runtime.NumGoroutine") = false) (hb : fn.body.isSome = true) (args : Array Value)
    (hw : Region.wanted oi (yielded ops a.tmps) = true) (hN : oi.dst = N) (hop : oi.op = .call { callee := .value c, args := as, argTypes := ts }) (hc : a.eval c = .func (.func f) #[] #[]) (hargs : as.map a.eval = args)
    (h : Calls P f args w fun e w' => ∃ v, e = .returned v ∧ K (a.put N v) w') : if Region.wanted oi (yielded ops a.tmps) = true then Oper.wp P oi a w K Q else K (a.put N undef) w := by
  refine call_ f args hw hN ?_ h
  have he := enters_ hf hname hb args w
  unfold execOp
  simp [hop, resolve, Deferred.ofValue, invoke, hc, hargs, he]
end
end Go.Proofs.YtccinkbneimmhaaW.PrintLast
