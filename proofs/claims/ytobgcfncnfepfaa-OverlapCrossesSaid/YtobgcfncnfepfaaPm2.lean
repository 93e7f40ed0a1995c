/- Parts of the proof, joined: Pm24, Pm25, Pm26, Pm27, Pm28, Pm29, Pm30, Pm31, Pm32, Pm33. -/
import Derived.Test.YtobgcfncnfepfaaPm1
import Derived.Orders
import Derived.Deep.LoopGhost
import Derived.ChangeArms
import Derived.ChangeShapes
import Derived.WideShapes
import Derived.OpenShut
import Derived.Carry
import Derived.ChangeOld
set_option linter.unusedVariables false
set_option linter.unusedSimpArgs false
section
/- A region on the machine. -/
namespace Pm
open Go Go.RowKit

def optEqB : Option Nat → Option Nat → Bool
  | none, none => true
  | some a, some b => Nat.beq a b
  | _, _ => false
theorem optEqB_eq : ∀ {a b : Option Nat}, optEqB a b = true → a = b
  | none, none, _ => rfl
  | some a, some b, h => by rw [Nat.eq_of_beq_eq_true h]
  | none, some _, h => by cases h
  | some _, none, h => by cases h
def grdB (ops : Array Oper) : Option (Nat × Bool) → Option (Nat × Bool) → Bool
  | none, none => true
  | some (g, w), some (j, w') => (w == w') && optEqB ((ops[g]?).bind (·.dst)) (some j)
  | _, _ => false
def okOper (P : Program) (ρ : Nat → Option Nat) (ops : Array Oper) (o : Oper) (p : Op) : Bool :=
  optEqB o.dst p.dst && grdB ops o.guard p.grd && (okI P ρ o.op p.xs p.i || okCall ρ o.op p.xs p.i)
def okOpers (P : Program) (ρ : Nat → Option Nat) (ops : Array Oper) : List Oper → List Op → Bool
  | [], [] => true
  | o :: os, p :: ps => okOper P ρ ops o p && okOpers P ρ ops os ps
  | _, _ => false
/-- What stands ahead of each operation, by the edges that bind. -/
def direct (o : Oper) : List Nat := (o.after.toList.filter fun e => Region.binds .any e).map (·.on)
def befs : List Oper → List (List Nat) → List (List Nat)
  | [], acc => acc
  | o :: os, acc => befs os (acc ++ [direct o ++ (direct o).flatMap fun k => acc.getD k []])
def pairB (x y : Op) : Bool := slotB x y && mayB x y
/-- Operations ahead of the k-th in the text: bound, or nothing to do with it. -/
def aheadB (bf : List Nat) (y : Op) : List Op → Nat → Bool
  | [], _ => true
  | x :: xs, i => (bf.elem i || pairB x y) && aheadB bf y xs (i + 1)
def ordB (all : List Op) (bfs : List (List Nat)) : List Op → Nat → Bool
  | [], _ => true
  | y :: ys, k => aheadB (bfs.getD k []) y (all.take k) 0 && ordB all bfs ys (k + 1)
/-- The same with the bits of a number for the list. -/
def maskOf (f : Nat → Nat) (l : List Nat) : Nat := l.foldl (fun m k => (m ||| 1 <<< k) ||| f k) 0
def befsM : List Oper → List Nat → List Nat
  | [], acc => acc
  | o :: os, acc => befsM os (acc ++ [maskOf (fun k => acc.getD k 0) (direct o)])
def aheadM (bf : Nat) (y : Op) : List Op → Nat → Bool
  | [], _ => true
  | x :: xs, i => (Nat.testBit bf i || pairB x y) && aheadM bf y xs (i + 1)
def ordM (all : List Op) (bfs : List Nat) : List Op → Nat → Bool
  | [], _ => true
  | y :: ys, k => aheadM (bfs.getD k 0) y (all.take k) 0 && ordM all bfs ys (k + 1)
theorem mask_mem {f : Nat → Nat} {i : Nat} : ∀ {l : List Nat} {m : Nat}, Nat.testBit (l.foldl (fun m k => (m ||| 1 <<< k) ||| f k) m) i = true → Nat.testBit m i = true ∨ i ∈ l ∨ ∃ k ∈ l, Nat.testBit (f k) i = true
  | [], _, h => Or.inl h
  | k :: l, m, h => by
    rcases mask_mem (l := l) h with h | h | ⟨j, h1, h2⟩
    · rw [Nat.testBit_or, Nat.testBit_or, Bool.or_eq_true, Bool.or_eq_true, Nat.one_shiftLeft, Nat.testBit_two_pow] at h
      rcases h with (h | h) | h
      · exact Or.inl h
      · exact Or.inr (Or.inl (by rw [of_decide_eq_true h]; exact List.mem_cons_self))
      · exact Or.inr (Or.inr ⟨k, List.mem_cons_self, h⟩)
    · exact Or.inr (Or.inl (List.mem_cons_of_mem _ h))
    · exact Or.inr (Or.inr ⟨j, List.mem_cons_of_mem _ h1, h2⟩)
theorem befsM_mem : ∀ {os : List Oper} {am : List Nat} {acc : List (List Nat)}, am.length = acc.length → (∀ k i, Nat.testBit (am.getD k 0) i = true → i ∈ acc.getD k []) → ∀ k i, Nat.testBit ((befsM os am).getD k 0) i = true → i ∈ (befs os acc).getD k []
  | [], _, _, _, h => h
  | o :: os, am, acc, hl, h => by
    refine befsM_mem (os := os) (by simp [hl]) fun k i hk => ?_
    by_cases h1 : k < acc.length
    · have e1 : (am ++ [maskOf (fun k => am.getD k 0) (direct o)]).getD k 0 = am.getD k 0 := by simp [List.getD, List.getElem?_append_left, hl ▸ h1]
      have e2 : (acc ++ [direct o ++ (direct o).flatMap fun k => acc.getD k []]).getD k [] = acc.getD k [] := by simp [List.getD, List.getElem?_append_left, h1]
      rw [e1] at hk
      rw [e2]
      exact h k i hk
    · by_cases h2 : k = acc.length
      · have e1 : (am ++ [maskOf (fun k => am.getD k 0) (direct o)]).getD k 0 = maskOf (fun k => am.getD k 0) (direct o) := by rw [h2, ← hl]; simp [List.getD]
        have e2 : (acc ++ [direct o ++ (direct o).flatMap fun k => acc.getD k []]).getD k [] = direct o ++ (direct o).flatMap fun k => acc.getD k [] := by rw [h2]; simp [List.getD]
        rw [e1] at hk
        rw [e2, List.mem_append, List.mem_flatMap]
        rcases mask_mem hk with h3 | h3 | ⟨j, h3, h4⟩
        · simp at h3
        · exact Or.inl h3
        · exact Or.inr ⟨j, h3, h j i h4⟩
      · have e1 : (am ++ [maskOf (fun k => am.getD k 0) (direct o)]).getD k 0 = 0 := by
          rw [List.getD, List.getElem?_eq_none (by simp; omega)]; rfl
        rw [e1] at hk
        simp at hk
theorem aheadM_B {bm : Nat} {bf : List Nat} (h : ∀ i, Nat.testBit bm i = true → i ∈ bf) {y : Op} : ∀ {xs : List Op} {k : Nat}, aheadM bm y xs k = true → aheadB bf y xs k = true
  | [], _, _ => rfl
  | x :: xs, k, h1 => by
    simp only [aheadM, Bool.and_eq_true, Bool.or_eq_true] at h1
    simp only [aheadB, Bool.and_eq_true, Bool.or_eq_true]
    exact ⟨h1.1.imp (fun h2 => List.elem_iff.2 (h k h2)) id, aheadM_B h h1.2⟩
theorem ordM_B {all : List Op} {bm : List Nat} {bf : List (List Nat)} (h : ∀ k i, Nat.testBit (bm.getD k 0) i = true → i ∈ bf.getD k []) : ∀ {ys : List Op} {k : Nat}, ordM all bm ys k = true → ordB all bf ys k = true
  | [], _, _ => rfl
  | y :: ys, k, h1 => by
    simp only [ordM, Bool.and_eq_true] at h1
    simp only [ordB, Bool.and_eq_true]
    exact ⟨aheadM_B (h k) h1.1, ordM_B h h1.2⟩
def lowB : List Oper → Nat → Bool
  | [], _ => true
  | o :: os, k => (direct o).all (fun j => Nat.blt j k) && lowB os (k + 1)
def okReg (P : Program) (ρ : Nat → Option Nat) (draw : Bool) (ops : Array Oper) (os : List Op) : Bool :=
  okOpers P ρ ops ops.toList os && (!draw || (lowB ops.toList 0 && ordM os (befsM ops.toList []) os 0))

section
variable {P : Program} {X : Ctx} {φ : Nat → Value} {tm : List S} {H : Hp} {a : Act} {w : World} {C : CallF}

theorem DDen.nm {ρ : Nat → Option Nat} {ok : Nat → Prop} {d : D} {v : Value} (h : DDen ρ ok φ H w d v) : ∀ n ∈ namesD d, H n ≠ none := by
  intro n hn
  cases d with
  | ref m => simp [namesD] at hn; subst hn; obtain ⟨_, _, o, ho, _⟩ := h; simp [ho]
  | view m l => simp [namesD] at hn; subst hn; obtain ⟨o, ho, _⟩ := h; simp [ho]
  | ptr m i p => simp [namesD] at hn; subst hn; obtain ⟨o, ho, _⟩ := h; simp [ho]
  | clo f caps => obtain ⟨_, _, _, hc⟩ := h; obtain ⟨t, d, ho⟩ := hc n hn; simp [ho]
  | _ => simp [namesD] at hn
theorem all2_nm {ρ : Nat → Option Nat} {ok : Nat → Prop} : ∀ {ds : List D} {vs : List Value}, All2 (DDen ρ ok φ H w) ds vs → ∀ d ∈ ds, ∀ n ∈ namesD d, H n ≠ none
  | [], [], _, _, h => by cases h
  | d :: ds, v :: vs, ⟨h1, h2⟩, d', hd => by
    rcases List.mem_cons.1 hd with rfl | hd
    · exact h1.nm
    · exact all2_nm h2 d' hd
  | [], _ :: _, h, _, _ => h.elim
  | _ :: _, [], h, _, _ => h.elim
theorem Rel.cl (R : Rel X φ tm H a w) : Cl tm H := by
  refine ⟨fun s hs n hn => ?_, fun n t d hn m hm => ?_⟩
  · obtain ⟨i, hi, he⟩ := List.getElem_of_mem hs
    have := R.tms i s (by rw [List.getElem?_eq_getElem hi, he])
    cases s with
    | d d => exact DDen.nm this n hn
    | tup ds =>
      obtain ⟨vs, _, h⟩ := this
      obtain ⟨d, hd, hn⟩ := List.mem_flatMap.1 hn
      exact all2_nm h d hd n hn
  · obtain ⟨_, _, _, _, v, _, _, h, _⟩ := R.obs n _ hn
    exact DDen.nm h m hm

theorem wants_den (R : Rel X φ tm H a w) {ops : Array Oper} {o : Oper} {p : Op} (hg : grdB ops o.guard p.grd = true) {b : Bool} (hw : wants p tm = some b) : Region.wanted o (yielded ops a.tmps) = b := by
  unfold wants at hw
  unfold Region.wanted
  cases h1 : o.guard with
  | none =>
    rw [h1] at hg
    cases h2 : p.grd with
    | none => rw [h2] at hw; simpa using hw
    | some q => rw [h2] at hg; cases hg
  | some gw =>
    obtain ⟨g, w0⟩ := gw
    rw [h1] at hg
    cases h2 : p.grd with
    | none => rw [h2] at hg; cases hg
    | some jw =>
      obtain ⟨j, w1⟩ := jw
      rw [h2] at hg hw
      simp only [grdB, Bool.and_eq_true, beq_iff_eq] at hg
      obtain ⟨rfl, hg⟩ := hg
      have hg := optEqB_eq hg
      simp only at hw
      have lt : ∀ {s : S}, tm[j]? = some s → j < a.tmps.size := fun hc => by
        rw [R.len]
        rcases Nat.lt_or_ge j tm.length with h | h
        · exact h
        · rw [List.getElem?_eq_none h] at hc; cases hc
      have at' : ∀ {s : S} {v : Value}, tm[j]? = some s → a.tmps.getD j undef = v → a.tmps[j]? = some v := fun hc this => by
        have hlt := lt hc
        rw [Array.getElem?_eq_getElem hlt]
        simp only [Array.getD, hlt, dite_true] at this
        rw [← this]; rfl
      split at hw
      · rename_i c hc
        simp only [Option.some.injEq] at hw
        have hj := at' hc (bool_val (R.tms j _ hc))
        simp only [yielded, hg, Option.bind_some, hj]
        rw [← hw]
        cases c <;> cases w0 <;> rfl
      · rename_i hc
        simp only [Option.some.injEq] at hw
        have hj := at' hc (show a.tmps.getD j undef = undef from R.tms j _ hc)
        simp only [yielded, hg, Option.bind_some, hj]
        rw [← hw]
        rfl
      · cases hw
/-- One operation of a region. -/
theorem exec1_wp (hC : CallsOk P X.ρ C) (hE : ∀ fid g, X.ρ fid = some g → enterB P fid = true) (R : Rel X φ tm H a w) {ops : Array Oper} {o : Oper} {p : Op} (ho : okOper P X.ρ ops o p = true) {tm' : List S} {H' : Hp} (h : exec1 C p tm H = some (tm', H'))
    {K : Act → World → Prop} {Q : Exit → Act → World → Prop} (hK : ∀ φ' a' w', Rel X φ' tm' H' a' w' → Fr X w w' → K a' w') :
    if Region.wanted o (yielded ops a.tmps) then o.wp P a w K Q ∨ (o.asks P a w ∧ LetsOut Q) else K (a.put o.dst undef) w := by
  simp only [okOper, Bool.and_eq_true, Bool.or_eq_true] at ho
  obtain ⟨⟨h1, h2⟩, h3⟩ := ho
  have hd := optEqB_eq h1
  rcases exec1_inv h with ⟨hw, rfl, rfl⟩ | ⟨hw, ss, s, he, ha, rfl⟩
  · rw [wants_den R h2 hw]
    simp only [Bool.false_eq_true, if_false]
    rw [hd]
    exact hK φ _ w (R.put p.dst fun _ => rfl) (Fr.refl X w)
  · rw [wants_den R h2 hw]
    simp only [if_true]
    refine .inl ?_
    by_cases hn : ∃ nm f rs io, p.i = .call nm f rs io
    · obtain ⟨nm, f, rs, io, hi⟩ := hn
      rw [hi] at h3 ha
      have h3 : okCall X.ρ o.op p.xs (.call nm f rs io) = true := by
        rcases h3 with h3 | h3
        · cases h3
        · exact h3
      simp only [actI] at ha
      split at ha <;> first | (exfalso; revert ha; simp; done) | skip
      rename_i c hc
      obtain ⟨r, hr, hfin⟩ := Option.bind_eq_some_iff.1 ha
      refine call_wp hC hE R h3 he hc hr hfin fun φ' v w' R' hs hf => ?_
      rw [hd]
      exact hK φ' _ w' (R'.put p.dst fun _ => hs) hf
    · have hn : ∀ nm f rs io, p.i ≠ .call nm f rs io := fun nm f rs io he => hn ⟨nm, f, rs, io, he⟩
      have h3 : okI P X.ρ o.op p.xs p.i = true := by
        rcases h3 with h3 | h3
        · exact h3
        · exfalso; revert h3 hn; generalize p.i = i; intro hn h3; cases i <;> first | (exact absurd rfl (hn _ _ _ _)) | (simp [okCall] at h3; done)
      obtain ⟨c, hc, hp⟩ := act_inv hn ha
      obtain ⟨v, w', φ', hrun, R', hs, hf⟩ := op_does R h3 he hc hp
      unfold Oper.wp
      rcases hrun with hrun | ⟨hrun, rfl⟩
      · rw [hrun, Oper.upon_value, hd]
        exact hK φ' _ w' (R'.put p.dst fun _ => hs) hf
      · rw [hrun, Oper.upon_skip, hd]
        exact hK φ' _ w' (R'.put p.dst fun _ => hs) hf

theorem okOpers_get {ops : Array Oper} : ∀ {l : List Oper} {ps : List Op}, okOpers P X.ρ ops l ps = true → l.length = ps.length ∧ ∀ (i : Nat) (o : Oper) (p : Op), l[i]? = some o → ps[i]? = some p → okOper P X.ρ ops o p = true
  | [], [], _ => ⟨rfl, fun i o p h => by simp at h⟩
  | o :: os, p :: ps, h => by
    simp only [okOpers, Bool.and_eq_true] at h
    obtain ⟨h1, h2⟩ := okOpers_get h.2
    refine ⟨by simp [h1], fun i o' p' ho hp => ?_⟩
    cases i with
    | zero => simp at ho hp; subst ho; subst hp; exact h.1
    | succ i => exact h2 i o' p' (by simpa using ho) (by simpa using hp)
  | [], _ :: _, h => by cases h
  | _ :: _, [], h => by cases h
/-- A region in the text's order. -/
theorem seq_wp (hC : CallsOk P X.ρ C) (hE : ∀ fid g, X.ρ fid = some g → enterB P fid = true) {ops : Array Oper} {Q : Exit → Act → World → Prop} {tm' : List S} {H' : Hp} : ∀ {ps : List Op} {k : Nat} {φ : Nat → Value} {tm : List S} {H : Hp} {a : Act} {w : World}, k + ps.length = ops.size →
    (∀ (i : Nat) (o : Oper) (p : Op), ops[k + i]? = some o → ps[i]? = some p → okOper P X.ρ ops o p = true) → Rel X φ tm H a w → execs C ps tm H = some (tm', H') → (∀ φ' a' w', Rel X φ' tm' H' a' w' → Fr X w w' → Q .normal a' w') → wpOps P ops Q (List.range' k ps.length) a w
  | [], k, φ, tm, H, a, w, _, _, R, h, hQ => by
    simp only [execs, Option.some.injEq, Prod.mk.injEq] at h
    obtain ⟨rfl, rfl⟩ := h
    exact hQ φ a w R (Fr.refl X w)
  | p :: ps, k, φ, tm, H, a, w, hk, hok, R, h, hQ => by
    simp only [execs_cons] at h
    obtain ⟨x, h1, h2⟩ := Option.bind_eq_some_iff.1 h
    simp only [List.length_cons] at hk ⊢
    rw [List.range'_succ]
    simp only [wpOps]
    have hlt : k < ops.size := by omega
    rw [Array.getElem?_eq_getElem hlt]
    simp only
    refine exec1_wp hC hE R (hok 0 _ p (by rw [Nat.add_zero, Array.getElem?_eq_getElem hlt]) rfl) h1 fun φ' a' w' R' hf => ?_
    refine seq_wp hC hE (by omega) (fun i o p' ho hp => hok (i + 1) o p' (by rw [← ho]; congr 1; omega) (by simpa using hp)) R' h2 fun φ2 a2 w2 R2 hf2 => hQ φ2 a2 w2 R2 (hf.trans hf2)
end
end Pm
end
section
/- A region whose order is drawn. -/
namespace Pm
open Go Go.RowKit

def rem : List Op → Nat → Array Bool → List Op
  | [], _, _ => []
  | o :: os, k, l => cond (l.getD k true) (rem os (k + 1) l) (o :: rem os (k + 1) l)
theorem getD_set_eq {l : Array Bool} {i : Nat} (h : l.getD i true = false) : (l.setIfInBounds i true).getD i true = true := by
  rcases Nat.lt_or_ge i l.size with h' | h'
  · simp [h']
  · simp [Array.getElem?_eq_none h'] at h
theorem rem_set_lt : ∀ {os : List Op} {k i : Nat} {l : Array Bool}, i < k → rem os k (l.setIfInBounds i true) = rem os k l
  | [], _, _, _, _ => rfl
  | o :: os, k, i, l, h => by
    simp only [rem]
    rw [getD_set_ne true (by omega), rem_set_lt (by omega)]
theorem rem_split : ∀ {os : List Op} {k i : Nat} {l : Array Bool} {o : Op}, os[i]? = some o → l.getD (k + i) true = false → ∃ l1 l2, rem os k l = l1 ++ o :: l2 ∧ rem os k (l.setIfInBounds (k + i) true) = l1 ++ l2 ∧ ∀ x ∈ l1, ∃ m, m < i ∧ os[m]? = some x ∧ l.getD (k + m) true = false
  | [], _, _, _, _, h, _ => by simp at h
  | p :: os, k, 0, l, o, h, hl => by
    simp only [List.getElem?_cons_zero, Option.some.injEq] at h
    subst h
    simp only [Nat.add_zero] at hl ⊢
    refine ⟨[], rem os (k + 1) l, by simp only [rem, hl]; rfl, ?_, by simp⟩
    simp only [rem, getD_set_eq hl, cond_true, List.nil_append]
    exact rem_set_lt (by omega)
  | p :: os, k, i + 1, l, o, h, hl => by
    simp only [List.getElem?_cons_succ] at h
    have e : k + (i + 1) = (k + 1) + i := by omega
    rw [e] at hl
    obtain ⟨l1, l2, h1, h2, h3⟩ := rem_split (k := k + 1) h hl
    have hk : (l.setIfInBounds (k + (i + 1)) true).getD k true = l.getD k true := getD_set_ne true (by omega)
    cases hb : l.getD k true with
    | true =>
      refine ⟨l1, l2, by simp only [rem, hb, cond_true]; exact h1, by simp only [rem, hk, hb, cond_true]; rw [e]; exact h2, fun x hx => ?_⟩
      obtain ⟨m, k1, k2, k3⟩ := h3 x hx
      exact ⟨m + 1, by omega, by simpa using k2, by rw [← k3]; congr 1; omega⟩
    | false =>
      refine ⟨p :: l1, l2, by simp only [rem, hb, cond_false, h1]; rfl, by simp only [rem, hk, hb, cond_false]; rw [e, h2]; rfl, fun x hx => ?_⟩
      rcases List.mem_cons.1 hx with rfl | hx
      · exact ⟨0, by omega, rfl, by simpa using hb⟩
      · obtain ⟨m, k1, k2, k3⟩ := h3 x hx
        exact ⟨m + 1, by omega, by simpa using k2, by rw [← k3]; congr 1; omega⟩
theorem rem_first : ∀ {os : List Op} {k : Nat} {l : Array Bool}, rem os k l ≠ [] → ∃ i, i < os.length ∧ l.getD (k + i) true = false ∧ ∀ m, m < i → l.getD (k + m) true = true
  | [], _, _, h => absurd rfl h
  | o :: os, k, l, h => by
    cases hb : l.getD k true with
    | false => exact ⟨0, by simp, by simpa using hb, by omega⟩
    | true =>
      simp only [rem, hb, cond_true] at h
      obtain ⟨i, h1, h2, h3⟩ := rem_first h
      refine ⟨i + 1, by simp; omega, by rw [← h2]; congr 1; omega, fun m hm => ?_⟩
      cases m with
      | zero => simpa using hb
      | succ m => have := h3 m (by omega); rwa [show k + 1 + m = k + (m + 1) from by omega] at this
theorem rem_all : ∀ {os : List Op} {k : Nat} {l : Array Bool}, (∀ i, i < os.length → l.getD (k + i) true = false) → rem os k l = os
  | [], _, _, _ => rfl
  | o :: os, k, l, h => by
    have h0 := h 0 (by simp)
    simp only [Nat.add_zero] at h0
    simp only [rem, h0, cond_false]
    rw [rem_all fun i hi => by rw [← h (i + 1) (by simp; omega)]; congr 1; omega]
theorem aheadB_get {bf : List Nat} {y : Op} : ∀ {xs : List Op} {k : Nat}, aheadB bf y xs k = true → ∀ (i : Nat) (x : Op), xs[i]? = some x → bf.elem (k + i) = true ∨ pairB x y = true
  | [], _, _, i, x, h => by simp at h
  | z :: xs, k, h, i, x, hx => by
    simp only [aheadB, Bool.and_eq_true, Bool.or_eq_true] at h
    cases i with
    | zero => simp at hx; subst hx; exact h.1
    | succ i =>
      have := aheadB_get h.2 i x (by simpa using hx)
      rwa [show k + 1 + i = k + (i + 1) from by omega] at this
theorem ordB_get {all : List Op} {bfs : List (List Nat)} : ∀ {ys : List Op} {k : Nat}, ordB all bfs ys k = true → ∀ (i : Nat) (y : Op), ys[i]? = some y → aheadB (bfs.getD (k + i) []) y (all.take (k + i)) 0 = true
  | [], _, _, i, y, h => by simp at h
  | z :: ys, k, h, i, y, hy => by
    simp only [ordB, Bool.and_eq_true] at h
    cases i with
    | zero => simp at hy; subst hy; exact h.1
    | succ i =>
      have := ordB_get h.2 i y (by simpa using hy)
      rwa [show k + 1 + i = k + (i + 1) from by omega] at this
theorem lowB_get : ∀ {os : List Oper} {k : Nat}, lowB os k = true → ∀ (i : Nat) (o : Oper), os[i]? = some o → ∀ j ∈ direct o, j < k + i
  | [], _, _, i, y, h => by simp at h
  | z :: ys, k, h, i, y, hy => by
    simp only [lowB, Bool.and_eq_true] at h
    cases i with
    | zero =>
      simp at hy; subst hy
      intro j hj
      have := List.all_eq_true.1 h.1 j hj
      simpa using this
    | succ i =>
      have := lowB_get h.2 i y (by simpa using hy)
      rwa [show k + 1 + i = k + (i + 1) from by omega] at this
/-- The listed ones are closed downward. -/
def Down (ops : List Oper) (l : Array Bool) : Prop := ∀ (k : Nat) (o : Oper), ops[k]? = some o → l.getD k false = true → ∀ j ∈ direct o, l.getD j false = true
theorem befs_len : ∀ {os : List Oper} {acc : List (List Nat)}, (befs os acc).length = acc.length + os.length
  | [], acc => rfl
  | o :: os, acc => by simp only [befs, befs_len, List.length_append, List.length_cons, List.length_nil]; omega
theorem befs_old : ∀ {os : List Oper} {acc : List (List Nat)} {k : Nat}, k < acc.length → (befs os acc).getD k [] = acc.getD k []
  | [], _, _, _ => rfl
  | o :: os, acc, k, h => by
    simp only [befs]
    rw [befs_old (by simp; omega)]
    simp only [List.getD_eq_getElem?_getD]
    rw [List.getElem?_append_left h]
theorem befs_get : ∀ {os : List Oper} {acc : List (List Nat)} (i : Nat) (o : Oper), os[i]? = some o → (∀ j ∈ direct o, j < acc.length + i) → (befs os acc).getD (acc.length + i) [] = direct o ++ (direct o).flatMap fun k => (befs os acc).getD k []
  | [], _, i, o, h, _ => by simp at h
  | p :: os, acc, 0, o, h, hj => by
    simp at h; subst h
    simp only [Nat.add_zero] at hj ⊢
    have e : ∀ k ∈ direct p, (befs (p :: os) acc).getD k [] = acc.getD k [] := fun k hk => befs_old (hj k hk)
    simp only [befs]
    rw [befs_old (by simp)]
    simp only [List.getD_eq_getElem?_getD, List.getElem?_concat_length, Option.getD_some]
    congr 1
    have key : ∀ l : List Nat, (∀ k ∈ l, (befs (p :: os) acc).getD k [] = acc.getD k []) → l.flatMap (fun k => acc[k]?.getD []) = l.flatMap fun k => (befs os (acc ++ [direct p ++ List.flatMap (fun k => acc[k]?.getD []) (direct p)]))[k]?.getD [] := by
      intro l
      induction l with
      | nil => intro _; rfl
      | cons k l ih =>
        intro h
        simp only [List.flatMap_cons]
        rw [ih fun k hk => h k (List.mem_cons_of_mem _ hk)]
        congr 1
        have := h k List.mem_cons_self
        simp only [befs, List.getD_eq_getElem?_getD] at this
        exact this.symm
    exact key _ e
  | p :: os, acc, i + 1, o, h, hj => by
    simp only [befs]
    have := befs_get (os := os) (acc := acc ++ [direct p ++ (direct p).flatMap fun k => acc.getD k []]) i o (by simpa using h) (fun j hj' => by have := hj j hj'; simp; omega)
    simp only [List.length_append, List.length_cons, List.length_nil] at this
    rwa [show acc.length + (0 + 1) + i = acc.length + (i + 1) from by omega] at this
theorem Down.befs {ops : List Oper} {l : Array Bool} (hlow : lowB ops 0 = true) (hd : Down ops l) : ∀ (n k : Nat), k < n → k < ops.length → l.getD k false = true → ∀ m ∈ (befs ops []).getD k [], l.getD m false = true := by
  intro n
  induction n with
  | zero => intro k h; omega
  | succ n ih =>
    intro k hk hlt hl m hm
    have ho : ops[k]? = some ops[k] := List.getElem?_eq_getElem hlt
    have hj := lowB_get hlow k _ ho
    simp only [Nat.zero_add] at hj
    have hb := befs_get (acc := []) k _ ho (by simpa using hj)
    simp only [List.length_nil, Nat.zero_add] at hb
    rw [hb] at hm
    rcases List.mem_append.1 hm with hm | hm
    · exact hd k _ ho hl m hm
    · obtain ⟨j, h1, h2⟩ := List.mem_flatMap.1 hm
      exact ih j (by have := hj j h1; omega) (by have := hj j h1; omega) (hd k _ ho hl j h1) m h2

section
variable {P : Program} {X : Ctx} {φ : Nat → Value} {tm : List S} {H : Hp} {a : Act} {w : World} {C : CallF}

theorem getD_ft {l : Array Bool} {k : Nat} (h : l.getD k true = false) : l.getD k false = false ∧ k < l.size := by
  rcases Nat.lt_or_ge k l.size with h' | h'
  · simp [h'] at h ⊢; exact h
  · simp [Array.getElem?_eq_none h'] at h
theorem getD_tf {l : Array Bool} {k : Nat} (h : l.getD k false = true) : l.getD k true = true := by
  rcases Nat.lt_or_ge k l.size with h' | h'
  · simp [h'] at h ⊢; exact h
  · simp [Array.getElem?_eq_none h'] at h
theorem getD_t {l : Array Bool} {k : Nat} (hk : k < l.size) (h : l.getD k true = true) : l.getD k false = true := by
  simp [hk] at h ⊢; exact h
theorem any_run (hC : CallsOk P X.ρ C) (hE : ∀ fid g, X.ρ fid = some g → enterB P fid = true) {ops : Array Oper} {os : List Op} {Q : Exit → Act → World → Prop} (hlen : os.length = ops.size)
    (hok : ∀ (i : Nat) (o : Oper) (p : Op), ops[i]? = some o → os[i]? = some p → okOper P X.ρ ops o p = true) (hlow : lowB ops.toList 0 = true) (hord : ordB os (befs ops.toList []) os 0 = true) {tm' : List S} {H' : Hp} :
    ∀ (fuel : Nat) (l : Array Bool) (φ : Nat → Value) (tm : List S) (H : Hp) (a : Act) (w : World), l.size = ops.size → Down ops.toList l → (rem os 0 l).length ≤ fuel → Rel X φ tm H a w → execs C (rem os 0 l) tm H = some (tm', H') →
      (∀ φ' a' w', Rel X φ' tm' H' a' w' → Fr X w w' → Q .normal a' w') → wpAny P .any ops Q fuel l a w := by
  -- if something is left, something is ready
  have rdy : ∀ l : Array Bool, l.size = ops.size → Region.ready .any ops l = [] → rem os 0 l = [] := fun l hsz hr => by
    rcases Classical.em (rem os 0 l = []) with h | h
    · exact h
    · obtain ⟨i, h1, h2, h3⟩ := rem_first h
      simp only [Nat.zero_add] at h2 h3
      have hlt : i < ops.size := by omega
      have : i ∈ Region.ready .any ops l := mem_ready.2 ⟨h2, ops[i], Array.getElem?_eq_getElem hlt, fun e he hb => by
        have hj : e.on ∈ direct ops[i] := List.mem_map.2 ⟨e, List.mem_filter.2 ⟨by simpa using he, hb⟩, rfl⟩
        have := lowB_get hlow i ops[i] (by simp [hlt]) e.on hj
        simp only [Nat.zero_add] at this
        exact getD_t (by omega) (h3 _ this)⟩
      rw [hr] at this; cases this
  intro fuel
  induction fuel with
  | zero =>
    intro l φ tm H a w hsz hdn hle R h hQ
    have hnil : rem os 0 l = [] := by cases hr : rem os 0 l with
      | nil => rfl
      | cons x xs => rw [hr] at hle; simp at hle
    rw [hnil] at h
    simp only [execs, Option.some.injEq, Prod.mk.injEq] at h
    obtain ⟨rfl, rfl⟩ := h
    refine ⟨?_, hQ φ a w R (Fr.refl X w)⟩
    cases hr : Region.ready .any ops l with
    | nil => rfl
    | cons i is =>
      exfalso
      have hi : i ∈ Region.ready .any ops l := by rw [hr]; exact List.mem_cons_self
      obtain ⟨h1, o, ho, _⟩ := mem_ready.1 hi
      have hlt : i < os.length := by rw [hlen]; exact (Array.getElem?_eq_some_iff.1 ho).1
      obtain ⟨l1, l2, h2, _⟩ := rem_split (k := 0) (l := l) (List.getElem?_eq_getElem hlt) (by simpa using h1)
      rw [hnil] at h2
      simp at h2
  | succ fuel ih =>
    intro l φ tm H a w hsz hdn hle R h hQ
    refine ⟨fun hr => ?_, fun i hi => ?_⟩
    · rw [rdy l hsz hr] at h
      simp only [execs, Option.some.injEq, Prod.mk.injEq] at h
      obtain ⟨rfl, rfl⟩ := h
      exact hQ φ a w R (Fr.refl X w)
    · obtain ⟨h1, o, ho, hall⟩ := mem_ready.1 hi
      have hlt' : i < ops.size := (Array.getElem?_eq_some_iff.1 ho).1
      have hlt : i < os.length := by omega
      have hol : ops.toList[i]? = some o := by simpa using ho
      obtain ⟨l1, l2, h2, h3, h4⟩ := rem_split (k := 0) (l := l) (List.getElem?_eq_getElem hlt) (by simpa using h1)
      simp only [Nat.zero_add] at h3 h4
      have hdir : ∀ j ∈ direct o, l.getD j false = true := fun j hj => by
        obtain ⟨e, h5, rfl⟩ := List.mem_map.1 hj
        obtain ⟨h6, h7⟩ := List.mem_filter.1 h5
        exact hall e (by simpa using h6) h7
      have hjl := lowB_get hlow i o hol
      simp only [Nat.zero_add] at hjl
      have hbef : ∀ m ∈ (befs ops.toList []).getD i [], l.getD m false = true := fun m hm => by
        have hb := befs_get (acc := []) i o hol (by simpa using hjl)
        simp only [List.length_nil, Nat.zero_add] at hb
        rw [hb] at hm
        rcases List.mem_append.1 hm with hm | hm
        · exact hdir m hm
        · obtain ⟨j, k1, k2⟩ := List.mem_flatMap.1 hm
          exact hdn.befs hlow (j + 1) j (by omega) (by have := hjl j k1; simp; omega) (hdir j k1) m k2
      rw [h2] at h
      obtain ⟨tm1, H1, e1, e2⟩ := first R.cl (fun x hx => by
        obtain ⟨m, k1, k2, k3⟩ := h4 x hx
        have := ordB_get hord i _ (List.getElem?_eq_getElem hlt)
        simp only [Nat.zero_add] at this
        rcases aheadB_get this m x (by rw [List.getElem?_take_of_lt k1]; exact k2) with h5 | h5
        · exfalso
          simp only [Nat.zero_add] at h5
          have := hbef m (by simpa using h5)
          rw [(getD_ft k3).1] at this; cases this
        · simp only [pairB, Bool.and_eq_true] at h5; exact h5) h
      unfold wpOp
      rw [ho]
      simp only
      refine exec1_wp hC hE R (hok i o _ ho (List.getElem?_eq_getElem hlt)) e1 fun φ' a' w' R' hf => ?_
      refine ih _ φ' tm1 H1 a' w' (by simpa using hsz) (fun k ok hk hlk j hj => ?_) ?_ R' (by rw [h3]; exact e2) fun φ2 a2 w2 R2 hf2 => hQ φ2 a2 w2 R2 (hf.trans hf2)
      · by_cases hik : i = k
        · subst hik
          rw [hol] at hk
          injection hk with hk; subst hk
          exact getD_set_true (hdir j hj)
        · rw [getD_set_ne false hik] at hlk
          exact getD_set_true (hdn k ok hk hlk j hj)
      · rw [h3]; rw [h2] at hle; simp only [List.length_append, List.length_cons] at hle ⊢; omega
theorem Rel.drew (R : Rel X φ tm H a w) : Rel X φ tm H a w.drew := R.grow ⟨rfl, rfl, rfl, Nat.le_refl _, fun _ _ _ => rfl⟩
/-- A region. -/
theorem reg_wp (hm : P.follows .mixedOrders = true) (hC : CallsOk P X.ρ C) (hE : ∀ fid g, X.ρ fid = some g → enterB P fid = true) {id : Nat} {draw : Bool} {ops : Array Oper} {os : List Op} (hr : okReg P X.ρ draw ops os = true) (R : Rel X φ tm H a w) {tm' : List S} {H' : Hp} (h : execs C os tm H = some (tm', H'))
    {Q : Exit → Act → World → Prop} (hQ : ∀ φ' a' w', Rel X φ' tm' H' a' w' → Fr X w w' → Q .normal a' w') : (Code.region id ops draw).wp P Q a w := by
  simp only [okReg, Bool.and_eq_true, Bool.or_eq_true, Bool.not_eq_true'] at hr
  obtain ⟨h1, h2⟩ := hr
  obtain ⟨h3, h4⟩ := okOpers_get h1
  have hlen : os.length = ops.size := by rw [← h3]; simp
  have hok : ∀ (i : Nat) (o : Oper) (p : Op), ops[i]? = some o → os[i]? = some p → okOper P X.ρ ops o p = true := fun i o p ho hp => h4 i o p (by simpa using ho) hp
  cases draw with
  | false =>
    refine wp_region ?_
    rw [List.range_eq_range', ← hlen]
    exact seq_wp hC hE (by omega) (fun i o p ho hp => hok i o p (by rw [← ho]; congr 1; omega) hp) R h hQ
  | true =>
    simp only [Bool.true_eq_false, false_or] at h2
    refine wp_region_any hm ?_
    have hall : rem os 0 (Array.replicate ops.size false) = os := rem_all fun i hi => by simp [show i < ops.size from by omega]
    refine any_run hC hE hlen hok h2.1 (ordM_B (befsM_mem rfl (fun k i h => by simp [List.getD] at h)) h2.2) ops.size _ φ tm H a w.drew (by simp) (fun k o hk hl => ?_) (by rw [hall]; omega) R.drew (by rw [hall]; exact h) fun φ' a' w' R' hf => hQ φ' a' w' R' ((Fr.drew X w).trans hf)
    exfalso
    rcases Nat.lt_or_ge k ops.size with h' | h'
    · simp [h'] at hl
    · simp [Nat.not_lt.2 h'] at hl
end
end Pm
end
section
/- At the head of a loop: what is kept, under names of their own. -/
namespace Pm
open Go Go.RowKit

theorem bleL {a b : Nat} (h : Nat.ble a b = true) : a ≤ b := Nat.le_of_ble_eq_true h
theorem bleT {a b : Nat} (h : a ≤ b) : Nat.ble a b = true := Nat.ble_eq_true_of_le h
theorem addN_mem : ∀ {ns l : List Nat} {n : Nat}, n ∈ addN l ns ↔ n ∈ l ∨ (n ∈ ns ∧ n ≠ 900000)
  | [], l, n => by simp [addN]
  | m :: ns, l, n => by
    simp only [addN]
    rw [addN_mem]
    cases hb : (Nat.beq m 900000 || l.elem m) with
    | true =>
      simp only [cond_true, List.mem_cons]
      simp only [Bool.or_eq_true, Nat.beq_eq, List.elem_eq_mem, decide_eq_true_eq] at hb
      constructor
      · rintro (h | ⟨h, k⟩)
        · exact .inl h
        · exact .inr ⟨.inr h, k⟩
      · rintro (h | ⟨rfl | h, k⟩)
        · exact .inl h
        · rcases hb with hb | hb
          · exact absurd hb k
          · exact .inl hb
        · exact .inr ⟨h, k⟩
    | false =>
      simp only [cond_false, List.mem_append, List.mem_cons, List.not_mem_nil, or_false]
      simp only [Bool.or_eq_false_iff] at hb
      have hm : m ≠ 900000 := fun h => by rw [h] at hb; simp at hb
      constructor
      · rintro ((h | rfl) | ⟨h, k⟩)
        · exact .inl h
        · exact .inr ⟨.inl rfl, hm⟩
        · exact .inr ⟨.inr h, k⟩
      · rintro (h | ⟨rfl | h, k⟩)
        · exact .inl (.inl h)
        · exact .inl (.inr rfl)
        · exact .inr ⟨h, k⟩
theorem addN_nodup : ∀ {ns l : List Nat}, l.Nodup → (addN l ns).Nodup
  | [], _, h => h
  | m :: ns, l, h => by
    simp only [addN]
    refine addN_nodup ?_
    cases hb : (Nat.beq m 900000 || l.elem m) with
    | true => exact h
    | false =>
      simp only [Bool.or_eq_false_iff, List.elem_eq_mem, decide_eq_false_iff_not] at hb
      simp only [cond_false]
      rw [List.nodup_append]
      exact ⟨h, by simp, fun a ha b hb' e => by simp at hb'; subst hb'; subst e; exact hb.2 ha⟩
theorem idx_get : ∀ {l : List Nat} {n b m : Nat}, idx n l b = some m → ∃ i, m = b + i ∧ l[i]? = some n
  | [], _, _, _, h => by simp [idx] at h
  | k :: l, n, b, m, h => by
    simp only [idx] at h
    cases hb : Nat.beq n k with
    | true =>
      rw [hb] at h
      simp only [cond_true, Option.some.injEq] at h
      exact ⟨0, by omega, by rw [Nat.eq_of_beq_eq_true hb]; rfl⟩
    | false =>
      rw [hb] at h
      obtain ⟨i, h1, h2⟩ := idx_get (l := l) h
      exact ⟨i + 1, by omega, by simpa using h2⟩
theorem idx_some : ∀ {l : List Nat} {n b : Nat}, n ∈ l → ∃ m, idx n l b = some m
  | k :: l, n, b, h => by
    simp only [idx]
    cases hb : Nat.beq n k with
    | true => exact ⟨b, rfl⟩
    | false =>
      rcases List.mem_cons.1 h with rfl | h
      · simp at hb
      · exact idx_some h
theorem ofL_get : ∀ {L : List (Nat × Ob)} {m : Nat} {o : Ob}, ofL L m = some o → (m, o) ∈ L
  | [], _, _, h => by cases h
  | x :: L, m, o, h => by
    simp only [ofL] at h
    cases hb : Nat.beq m x.1 with
    | true =>
      rw [hb] at h
      simp only [cond_true, Option.some.injEq] at h
      rw [Nat.eq_of_beq_eq_true hb, ← h]; exact List.mem_cons_self
    | false => rw [hb] at h; exact List.mem_cons_of_mem _ (ofL_get h)
theorem renP_mem {H : Hp} {l : List Nat} {b : Nat} : ∀ {ns : List Nat} {k m : Nat} {o : Ob}, (m, o) ∈ renP H l b ns k → (∃ o0, H 900000 = some o0 ∧ o = renI o0 ∧ m = 900000) ∨ ∃ i n o0, m = k + i ∧ ns[i]? = some n ∧ H n = some o0 ∧ o = renO l b o0
  | [], k, m, o, h => by
    simp only [renP] at h
    split at h
    · rename_i o0 h0
      simp only [List.mem_cons, List.not_mem_nil, or_false, Prod.mk.injEq] at h
      exact .inl ⟨o0, h0, h.2, h.1⟩
    · cases h
  | n :: ns, k, m, o, h => by
    simp only [renP] at h
    have tail : (m, o) ∈ renP H l b ns (k + 1) → (∃ o0, H 900000 = some o0 ∧ o = renI o0 ∧ m = 900000) ∨ ∃ i n' o0, m = k + i ∧ (n :: ns)[i]? = some n' ∧ H n' = some o0 ∧ o = renO l b o0 := fun h => by
      rcases renP_mem h with h | ⟨i, n', o0, h1, h2, h3, h4⟩
      · exact .inl h
      · exact .inr ⟨i + 1, n', o0, by omega, by simpa using h2, h3, h4⟩
    split at h
    · rename_i o0 h0
      rcases List.mem_cons.1 h with h | h
      · simp only [Prod.mk.injEq] at h
        exact .inr ⟨0, n, o0, h.1, rfl, h0, h.2⟩
      · exact tail h
    · exact tail h
theorem renP_lt {H : Hp} {l : List Nat} {b : Nat} {k m : Nat} (hm : m < k) (h9 : m ≠ 900000) {ns : List Nat} : ofL (renP H l b ns k) m = none := by
  cases h : ofL (renP H l b ns k) m with
  | none => rfl
  | some o =>
    rcases renP_mem (ofL_get h) with ⟨_, _, _, h⟩ | ⟨i, _, _, h, _⟩
    · exact absurd h h9
    · omega
theorem renP_at {H : Hp} {l : List Nat} {b : Nat} : ∀ {ns : List Nat} {k i n : Nat}, ns[i]? = some n → k + ns.length ≤ 900000 → ofL (renP H l b ns k) (k + i) = (H n).map (renO l b)
  | [], _, _, _, h, _ => by simp at h
  | m :: ns, k, 0, n, h, h9 => by
    simp at h; subst h
    simp only [List.length_cons] at h9
    simp only [renP, Nat.add_zero]
    cases hm : H m with
    | some o => simp [ofL]
    | none => exact renP_lt (Nat.lt_succ_self k) (by omega)
  | m :: ns, k, i + 1, n, h, h9 => by
    simp only [List.length_cons] at h9
    have ih := renP_at (H := H) (l := l) (b := b) (ns := ns) (k := k + 1) (i := i) (by simpa using h) (by omega)
    rw [show k + 1 + i = k + (i + 1) from by omega] at ih
    simp only [renP]
    cases hm : H m with
    | none => exact ih
    | some o =>
      simp only [ofL]
      have : Nat.beq (k + (i + 1)) k = false := by
        cases hb : Nat.beq (k + (i + 1)) k with
        | false => rfl
        | true => have := Nat.eq_of_beq_eq_true hb; omega
      rw [this]; exact ih
theorem renP_io {H : Hp} {l : List Nat} {b : Nat} : ∀ {ns : List Nat} {k : Nat}, k + ns.length ≤ 900000 → ofL (renP H l b ns k) 900000 = (H 900000).map renI
  | [], k, _ => by
    simp only [renP]
    cases hm : H 900000 with
    | none => rfl
    | some o => rfl
  | m :: ns, k, h9 => by
    simp only [List.length_cons] at h9
    have ih := renP_io (H := H) (l := l) (b := b) (ns := ns) (k := k + 1) (by omega)
    simp only [renP]
    cases hm : H m with
    | none => exact ih
    | some o =>
      simp only [ofL]
      have : Nat.beq 900000 k = false := by
        cases hb : Nat.beq 900000 k with
        | false => rfl
        | true => have := Nat.eq_of_beq_eq_true hb; omega
      rw [this]; exact ih

/-- The old name of a new one. -/
def inv (l : List Nat) (b m : Nat) : Nat := cond (Nat.beq m 900000) 900000 (l.getD (m - b) 0)
theorem beq_f {n : Nat} (h : n ≠ 900000) : Nat.beq n 900000 = false := by
  cases hb : Nat.beq n 900000 with
  | false => rfl
  | true => exact absurd (Nat.eq_of_beq_eq_true hb) h
theorem ren_some {l : List Nat} {b n m : Nat} (h : ren l b n = some m) : (n = 900000 ∧ m = 900000) ∨ (n ≠ 900000 ∧ ∃ i, m = b + i ∧ l[i]? = some n) := by
  unfold ren at h
  cases hb : Nat.beq n 900000 with
  | true => rw [hb] at h; simp only [cond_true, Option.some.injEq] at h; exact .inl ⟨Nat.eq_of_beq_eq_true hb, h.symm⟩
  | false =>
    rw [hb] at h
    exact .inr ⟨fun h => (by rw [h] at hb; simp at hb), idx_get h⟩
theorem ren_inv {l : List Nat} {b n m : Nat} (h9 : b + l.length ≤ 900000) (h : ren l b n = some m) : inv l b m = n := by
  rcases ren_some h with ⟨rfl, rfl⟩ | ⟨_, i, rfl, h3⟩
  · simp [inv]
  · have := (List.getElem?_eq_some_iff.1 h3).1
    rw [inv, beq_f (by omega), cond_false, Nat.add_sub_cancel_left, List.getD_eq_getElem?_getD, h3, Option.getD_some]
def renQ (l : List Nat) (b n : Nat) (o : Ob) : Ob := cond (Nat.beq n 900000) (renI o) (renO l b o)
theorem ren_H {H : Hp} {l : List Nat} {b n m : Nat} (h9 : b + l.length ≤ 900000) (h : ren l b n = some m) : renH H l b m = (H n).map (renQ l b n) := by
  rcases ren_some h with ⟨rfl, rfl⟩ | ⟨h0, i, rfl, h3⟩
  · have e : renQ l b 900000 = renI := funext fun o => by simp [renQ]
    rw [e]
    exact renP_io h9
  · have e : renQ l b n = renO l b := funext fun o => by simp only [renQ, beq_f h0, cond_false]
    rw [e]
    exact renP_at h3 h9
theorem renH_get {H : Hp} {l : List Nat} {b m : Nat} {o : Ob} (h9 : b + l.length ≤ 900000) (h : renH H l b m = some o) : ∃ o0, H (inv l b m) = some o0 ∧ ((m = 900000 ∧ o = renI o0) ∨ (m ≠ 900000 ∧ o = renO l b o0 ∧ ∃ i, m = b + i ∧ l[i]? = some (inv l b m))) := by
  rcases renP_mem (ofL_get h) with ⟨o0, h1, h2, rfl⟩ | ⟨i, n, o0, rfl, h2, h3, h4⟩
  · exact ⟨o0, by simp [inv, h1], .inl ⟨rfl, h2⟩⟩
  · have := (List.getElem?_eq_some_iff.1 h2).1
    have hne : b + i ≠ 900000 := by omega
    have hi : inv l b (b + i) = n := by rw [inv, beq_f hne, cond_false, Nat.add_sub_cancel_left, List.getD_eq_getElem?_getD, h2, Option.getD_some]
    exact ⟨o0, by rw [hi]; exact h3, .inr ⟨hne, h4, i, rfl, by rw [hi]; exact h2⟩⟩
theorem inv_inj {l : List Nat} {b m m' : Nat} (hl : l.Nodup) (hb : ∀ n ∈ l, n ≠ 900000) (h9 : b + l.length ≤ 900000) {H : Hp} {o o' : Ob} (h : renH H l b m = some o) (h' : renH H l b m' = some o') (he : inv l b m = inv l b m') : m = m' := by
  obtain ⟨_, _, h1⟩ := renH_get h9 h
  obtain ⟨_, _, h2⟩ := renH_get h9 h'
  have i1 : inv l b 900000 = 900000 := by simp [inv]
  rcases h1 with ⟨rfl, _⟩ | ⟨_, _, i, e1, h1⟩ <;> rcases h2 with ⟨rfl, _⟩ | ⟨_, _, j, e2, h2⟩
  · rfl
  · have := hb _ (List.mem_of_getElem? h2); rw [← he, i1] at this; exact absurd rfl this
  · have := hb _ (List.mem_of_getElem? h1); rw [he, i1] at this; exact absurd rfl this
  · rw [he] at h1
    have := (List.getElem?_inj (List.getElem?_eq_some_iff.1 h1).1 hl).1 (h1.trans h2.symm)
    omega

section
variable {X : Ctx} {φ : Nat → Value} {tm : List S} {H : Hp} {a : Act} {w : World}

theorem renO_live (l : List Nat) (b : Nat) (o : Ob) : (renO l b o).live = o.live ∧ (renO l b o).isDead = o.isDead ∧ (renO l b o).isIo = o.isIo ∧ (renO l b o).row = o.row := by cases o <;> simp [renO, Ob.live, Ob.isDead, Ob.isIo, Ob.row]
theorem renI_live (o : Ob) : ((renI o).live = true → o.live = true) ∧ ((renI o).isDead = false → o.isDead = false ∧ renI o = o) ∧ ((renI o).isIo = o.isIo) ∧ (o.row = true → (renI o).row = true) := by cases o <;> simp [renI, Ob.live, Ob.isDead, Ob.isIo, Ob.row]
/-- What an object comes from. -/
theorem from_live {l : List Nat} {b m : Nat} {o o0 : Ob} (h : (m = 900000 ∧ o = renI o0) ∨ (m ≠ 900000 ∧ o = renO l b o0 ∧ ∃ i, m = b + i ∧ l[i]? = some (inv l b m))) : (o.live = true → o0.live = true) ∧ (o.isDead = false → o0.isDead = false) ∧ o.isIo = o0.isIo := by
  rcases h with ⟨_, rfl⟩ | ⟨_, rfl, _⟩
  · exact ⟨(renI_live o0).1, fun h => ((renI_live o0).2.1 h).1, (renI_live o0).2.2.1⟩
  · exact ⟨fun h => by rw [← (renO_live l b o0).1]; exact h, fun h => by rw [← (renO_live l b o0).2.1]; exact h, (renO_live l b o0).2.2.1⟩
def reφ (φ : Nat → Value) (l : List Nat) (b : Nat) : Nat → Value := fun m => φ (inv l b m)
theorem ren_ok {l : List Nat} {b N k : Nat} (h9 : b + l.length ≤ 900000) (h : okB X φ H N k) : okB X (reφ φ l b) (renH H l b) N k :=
  ⟨h.1, h.2.1, fun n o hn hl => by
    obtain ⟨o0, h1, h2⟩ := renH_get h9 hn
    exact h.2.2 _ o0 h1 ((from_live h2).1 hl)⟩
theorem renL_map {l : List Nat} {b : Nat} (h9 : b + l.length ≤ 900000) : ∀ {ns ms : List Nat}, renL l b ns = some ms → ns.map φ = ms.map (reφ φ l b) ∧ ∀ m ∈ ms, ∃ n ∈ ns, n ≠ 900000 ∧ ren l b n = some m
  | [], ms, h => by simp [renL] at h; subst h; simp
  | n :: ns, ms, h => by
    simp only [renL] at h
    split at h <;> first | (exfalso; revert h; simp; done) | skip
    rename_i m ms' h1 h2
    injection h with h; subst h
    obtain ⟨k1, k2⟩ := renL_map h9 h2
    have hn9 : n ≠ 900000 ∧ ren l b n = some m := by
      cases hb : Nat.beq n 900000 with
      | true => rw [hb] at h1; cases h1
      | false => rw [hb] at h1; exact ⟨fun h => (by rw [h] at hb; simp at hb), h1⟩
    refine ⟨by simp only [List.map_cons, k1, reφ, ren_inv h9 hn9.2], fun m' hm => ?_⟩
    rcases List.mem_cons.1 hm with rfl | hm
    · exact ⟨n, List.mem_cons_self, hn9⟩
    · obtain ⟨n', k3, k4⟩ := k2 m' hm; exact ⟨n', List.mem_cons_of_mem _ k3, k4⟩
theorem renQ_cases (l : List Nat) (b n : Nat) (o : Ob) : renQ l b n o = renO l b o ∨ renQ l b n o = renI o := by
  unfold renQ; cases Nat.beq n 900000 <;> simp
theorem ren_den {l : List Nat} {b : Nat} (h9 : b + l.length ≤ 900000) {N : Nat} {d : D} {v : Value} (h : DDen X.ρ (okB X φ H N) φ H w d v) : DDen X.ρ (okB X (reφ φ l b) (renH H l b) N) (reφ φ l b) (renH H l b) w (renD l b d) v := by
  have up : ∀ k, okB X φ H N k → okB X (reφ φ l b) (renH H l b) N k := fun k hk => ren_ok h9 hk
  have old : ∀ d, (∀ n, d ≠ .ref n) → (∀ n k, d ≠ .view n k) → (∀ n i p, d ≠ .ptr n i p) → (∀ f c, d ≠ .clo f c) → DDen X.ρ (okB X φ H N) φ H w d v → DDen X.ρ (okB X (reφ φ l b) (renH H l b) N) (reφ φ l b) (renH H l b) w d v := by
    intro d h1 h2 h3 h4 h
    cases d with
    | ref n => exact absurd rfl (h1 n)
    | view n k => exact absurd rfl (h2 n k)
    | ptr n i p => exact absurd rfl (h3 n i p)
    | clo f c => exact absurd rfl (h4 f c)
    | undef => trivial
    | skp => exact h
    | val t x => exact VV.mono up (fun _ _ => rfl) h
    | nil => exact h
    | fsl e xs => obtain ⟨A, e1, h⟩ := h; exact ⟨A, e1, h.mono up (fun _ _ => rfl)⟩
    | nn e xs => obtain ⟨A, c, e1, l1, h⟩ := h; exact ⟨A, c, e1, l1, h.mono up (fun _ _ => rfl)⟩
    | iptr t x => exact IDen.mono up (fun _ _ => rfl) h
    | cloi f l => obtain ⟨fid, vs, e1, e2, h⟩ := h; exact ⟨fid, vs, e1, e2, h.imp fun _ _ => IDen.mono up (fun _ _ => rfl)⟩
    | own => exact h
  cases d with
  | ref n =>
    simp only [renD]
    cases hr : ren l b n with
    | none => trivial
    | some m =>
      obtain ⟨h1, h2, o, h3, h4⟩ := h
      refine ⟨by rw [h1]; simp only [reφ, ren_inv h9 hr], h2, renQ l b n o, by rw [ren_H h9 hr, h3]; rfl, ?_⟩
      rcases renQ_cases l b n o with e | e
      · rw [e, (renO_live l b o).2.2.2]; exact h4
      · rw [e]; exact (renI_live o).2.2.2 h4
  | view n k =>
    simp only [renD]
    cases hr : ren l b n with
    | none => trivial
    | some m =>
      obtain ⟨o, h3, h4⟩ := h
      refine ⟨renQ l b n o, by rw [ren_H h9 hr, h3]; rfl, ?_⟩
      simp only [reφ, ren_inv h9 hr]
      rcases renQ_cases l b n o with e | e <;> rw [e] <;> cases o <;> first | exact h4 | trivial
  | ptr n i p =>
    simp only [renD]
    cases hr : ren l b n with
    | none => trivial
    | some m =>
      obtain ⟨o, h3, h4⟩ := h
      refine ⟨renQ l b n o, by rw [ren_H h9 hr, h3]; rfl, ?_⟩
      simp only [reφ, ren_inv h9 hr]
      rcases renQ_cases l b n o with e | e <;> rw [e] <;> cases o <;> first | exact h4 | trivial
  | clo f caps =>
    simp only [renD]
    cases hr : renL l b caps with
    | none => trivial
    | some ms =>
      obtain ⟨fid, h1, h2, h3⟩ := h
      obtain ⟨k1, k2⟩ := renL_map (φ := φ) h9 hr
      refine ⟨fid, h1, by rw [h2, k1], fun m hm => ?_⟩
      obtain ⟨n, k3, k9, k4⟩ := k2 m hm
      obtain ⟨t, d, k5⟩ := h3 n k3
      exact ⟨t, renD l b d, by rw [ren_H h9 k4, k5]; simp only [Option.map_some, renQ, beq_f k9, cond_false]; rfl⟩
  | _ => (have := old _ (by simp) (by simp) (by simp) (by simp) h; exact this)
theorem keepS_get {l : List Nat} {b : Nat} {keep : List Nat} : ∀ {ss : List S} {k i : Nat} {s : S}, (keepS l b keep ss k)[i]? = some s → ∃ s0, ss[i]? = some s0 ∧ (s = renS l b s0 ∨ s = .d .undef)
  | [], _, _, _, h => by simp [keepS] at h
  | s0 :: ss, k, 0, s, h => by
    simp only [keepS, List.getElem?_cons_zero, Option.some.injEq] at h
    refine ⟨s0, rfl, ?_⟩
    cases hb : keep.elem k with
    | true => rw [hb] at h; exact .inl h.symm
    | false => rw [hb] at h; exact .inr h.symm
  | s0 :: ss, k, i + 1, s, h => by
    simp only [keepS, List.getElem?_cons_succ] at h
    obtain ⟨s1, h1, h2⟩ := keepS_get h
    exact ⟨s1, by simpa using h1, h2⟩
theorem keepS_len {l : List Nat} {b : Nat} {keep : List Nat} : ∀ {ss : List S} {k : Nat}, (keepS l b keep ss k).length = ss.length
  | [], _ => rfl
  | s :: ss, k => by simp only [keepS, List.length_cons, keepS_len]
/-- What a box holds. -/
theorem cont_cases {t : Ty} {d : D} (h : cont t d = some d) : (∃ x, d = .val t x) ∨ d = .nil ∨ ∃ n, d = .ref n := by
  cases d with
  | val t' x => simp only [cont, Option.map_eq_some_iff] at h; obtain ⟨y, _, h⟩ := h; exact .inl ⟨y, h.symm⟩
  | nil => exact .inr (.inl rfl)
  | ref n => exact .inr (.inr ⟨n, rfl⟩)
  | _ => simp [cont] at h
theorem Rel.norm (hX : ∀ n m, X.iov n = X.iov m) (R : Rel X φ tm H a w) (keep : List Nat) (b : Nat) (h9 : b + (gather tm H keep).length ≤ 900000) : Rel X (reφ φ (gather tm H keep) b) (keepS (gather tm H keep) b keep tm 0) (renH H (gather tm H keep) b) a w := by
  have hnd : (gather tm H keep).Nodup := addN_nodup (addN_nodup (addN_nodup List.nodup_nil))
  have hlt : ∀ n ∈ gather tm H keep, n ≠ 900000 := fun n hn => by
    simp only [gather] at hn
    rcases addN_mem.1 hn with hn | hn
    · rcases addN_mem.1 hn with hn | hn
      · rcases addN_mem.1 hn with hn | hn
        · simp at hn
        · exact hn.2
      · exact hn.2
    · exact hn.2
  -- what a kept variable leads to is kept
  have hcl : ∀ n ∈ gather tm H keep, ∀ t k, H n = some (.box t (.ref k)) → k ≠ 900000 → k ∈ gather tm H keep := fun n hn t k hb hk => by
    simp only [gather] at hn ⊢
    rcases addN_mem.1 hn with hn | hn
    · exact addN_mem.2 (.inr ⟨List.mem_flatMap.2 ⟨n, hn, by simp [inner, hb, namesD]⟩, hk⟩)
    · exfalso
      obtain ⟨x, _, h1⟩ := List.mem_flatMap.1 hn.1
      simp only [inner] at h1
      split at h1
      · rename_i t' d hx
        obtain ⟨hc, _, _, _, v, _, _, hd, _⟩ := R.obs x _ hx
        rcases cont_cases hc with ⟨y, rfl⟩ | rfl | ⟨m, rfl⟩
        · simp [namesD] at h1
        · simp [namesD] at h1
        · simp [namesD] at h1; subst h1
          obtain ⟨_, _, o, ho, hr⟩ := hd
          rw [hb] at ho; injection ho with ho; subst ho; cases hr
      · simp at h1
  generalize gather tm H keep = l at hnd hlt hcl h9
  refine ⟨by rw [keepS_len]; exact R.len, fun i s hs => ?_, fun m o hm => ?_, fun m o k hm hd hk => ?_, fun m m' o o' k hne hm hm' hl hd hk => ?_, R.bnd, R.ok0, R.wr, R.dfs, fun m o hm hio => ?_⟩
  · obtain ⟨s0, h1, rfl | rfl⟩ := keepS_get hs
    · have := R.tms i s0 h1
      cases s0 with
      | d d => exact ren_den (l := l) (b := b) h9 this
      | tup ds => trivial
    · trivial
  · obtain ⟨o0, h1, h2⟩ := renH_get h9 hm
    have hob := R.obs _ o0 h1
    rcases h2 with ⟨_, rfl⟩ | ⟨_, rfl, i, _, h2⟩
    · cases o0 with
      | arr e xs w =>
        obtain ⟨T, cs, hr, he⟩ := hob
        exact ⟨T, cs, hr, fun i hi => (he i hi).mono (fun _ h => ren_ok h9 h) (fun _ _ => rfl)⟩
      | dead => trivial
      | box t d => trivial
    · cases o0 with
      | arr e xs w =>
        obtain ⟨T, cs, hr, he⟩ := hob
        exact ⟨T, cs, hr, fun i hi => (he i hi).mono (fun _ h => ren_ok h9 h) (fun _ _ => rfl)⟩
      | dead => trivial
      | box t d =>
        obtain ⟨hc, g, T, cs, v, e1, e2, e3, e4, e5⟩ := hob
        refine ⟨?_, g, T, cs, v, e1, e2, ren_den h9 e3, e4, e5⟩
        rcases cont_cases hc with ⟨y, rfl⟩ | rfl | ⟨k, rfl⟩
        · exact hc
        · exact hc
        · have hk : ∃ m', ren l b k = some m' := by
            unfold ren
            cases hb : Nat.beq k 900000 with
            | true => exact ⟨900000, rfl⟩
            | false =>
              have hk9 : k ≠ 900000 := fun h => by rw [h] at hb; simp at hb
              exact idx_some (b := b) (hcl _ (List.mem_of_getElem? h2) t k h1 hk9)
          obtain ⟨m', hm'⟩ := hk
          simp only [renD, hm']
          cases t <;> simp [cont] at hc ⊢
  · obtain ⟨o0, h1, h2⟩ := renH_get h9 hm
    have := R.mine _ o0 k h1 ((from_live h2).2.1 hd) hk
    rw [(from_live h2).2.2]; exact this
  · obtain ⟨o0, h1, h2⟩ := renH_get h9 hm
    obtain ⟨o1, h3, h4⟩ := renH_get h9 hm'
    exact R.apart _ _ o0 o1 k (fun he => hne (inv_inj hnd hlt h9 hm hm' he)) h1 h3 ((from_live h2).1 hl) ((from_live h4).2.1 hd) hk
  · obtain ⟨o0, h1, h2⟩ := renH_get h9 hm
    rw [(from_live h2).2.2] at hio
    rw [show reφ φ l b m = φ (inv l b m) from rfl, R.iov _ o0 h1 hio]
    exact hX _ _
end
end Pm
end
section
/- Code: what the plain reading says is what the machine does. -/
namespace Pm
open Go Go.RowKit

def okCd (P : Program) (ρ : Nat → Option Nat) : Code → Cd → Bool
  | .skip, .skip => true
  | .region _ ops draw, .reg d os => (draw == d) && okReg P ρ draw ops os
  | .seq a b, .seq x y => okCd P ρ a x && okCd P ρ b y
  | .cond c a b, .cond x y z => xB ρ c x && (okCd P ρ a y && okCd P ρ b z)
  | .block i c, .block j d => Nat.beq i j && okCd P ρ c d
  | .loop c, .loop _ _ d => okCd P ρ c d
  | .exit i, .exit j => Nat.beq i j
  | .ret, .ret => true
  | _, _ => false
def exV : Ex → Exit
  | .normal => .normal
  | .exit i => .exit i
  | .ret => .ret

section
variable {P : Program} {X : Ctx} {φ : Nat → Value} {tm : List S} {H : Hp} {a : Act} {w : World} {C : CallF}

theorem opK_eq {o : Op} {K : List S → Hp → Option R} : opK C o tm H K = (step1 C o tm H).bind fun x => K x.1 x.2 := by
  unfold opK step1
  cases evXs tm o.xs with
  | none => rfl
  | some ss =>
    simp only
    have fin : ∀ r : Option (Chk × S × Hp), (match r with
        | some (c, s, H') => @ite _ c.p c.dec (K (setT tm o.dst s) H') none
        | none => none) = (match r with
        | some (c, s, H') => @ite _ c.p c.dec (some (setT tm o.dst s, H')) none
        | none => none).bind fun x => K x.1 x.2 := fun r => by
      cases r with
      | none => rfl
      | some r =>
        obtain ⟨c, s, H'⟩ := r
        simp only
        by_cases hp : c.p
        · rw [@if_pos _ c.dec hp, @if_pos _ c.dec hp]; rfl
        · rw [@if_neg _ c.dec hp, @if_neg _ c.dec hp]; rfl
    generalize o.i = i
    cases i with
    | call nm f rs io =>
      simp only
      cases callI H nm f rs io ss with
      | none => rfl
      | some c =>
        simp only
        cases callT C c.rs c.f c.as with
        | none => rfl
        | some r =>
          simp only [Option.bind_some]
          cases c.fin r with
          | none => rfl
          | some y => rfl
    | _ => exact fin _
theorem set_self {l : List S} {j : Nat} {s : S} (h : l[j]? = some s) : l.set j s = l := by
  obtain ⟨h1, h2⟩ := List.getElem?_eq_some_iff.1 h
  rw [← h2]; exact List.set_getElem_self h1
theorem opsK_eq : ∀ {os : List Op} {tm : List S} {H : Hp} {K : List S → Hp → Option R}, opsK C os tm H K = (execs C os tm H).bind fun x => K x.1 x.2
  | [], _, _, _ => rfl
  | o :: os, tm, H, K => by
    simp only [opsK, execs_cons]
    have main : ∀ tm, opK C o tm H (fun tm' H' => opsK C os tm' H' K) = ((step1 C o tm H).bind fun x => execs C os x.1 x.2).bind fun x => K x.1 x.2 := fun tm => by
      rw [opK_eq, Option.bind_assoc]
      congr 1; funext x; exact opsK_eq
    unfold exec1
    cases o.grd with
    | none => exact main tm
    | some g =>
      obtain ⟨j, w⟩ := g
      simp only
      cases hj : tm[j]? with
      | none => rfl
      | some s => cases s with
        | tup => rfl
        | d d => cases d with
          | val t x => cases t with
            | bool =>
              simp only
              cases x with
              | true =>
                rw [set_self hj, if_pos rfl]
                cases w with
                | true => simp only [cond_true, if_true]; exact main tm
                | false => simp only [cond_false]; rw [if_neg (by simp)]; simp only [Option.bind_some]; exact opsK_eq
              | false =>
                rw [set_self hj, if_neg (by simp)]
                cases w with
                | true => simp only [cond_true]; rw [if_neg (by simp)]; simp only [Option.bind_some]; exact opsK_eq
                | false => simp only [cond_false, if_true]; exact main tm
            | _ => rfl
          | skp => simp only [Option.bind_some]; exact opsK_eq
          | _ => rfl
/-- What the plain reading of a code says. -/
theorem ev_wp (hm : P.follows .mixedOrders = true) (hC : CallsOk P X.ρ C) (hE : ∀ fid g, X.ρ fid = some g → enterB P fid = true) (hX : ∀ n m, X.iov n = X.iov m) {r : R} (k : Nat) :
    ∀ (cd : Cd) {c : Code} {φ : Nat → Value} {tm : List S} {H : Hp} {a : Act} {w : World} {K : Kt} {Q : Exit → Act → World → Prop}, okCd P X.ρ c cd = true → Rel X φ tm H a w → ev C k cd tm H K = some r →
      (∀ e tm' H' φ' a' w', Rel X φ' tm' H' a' w' → Fr X w w' → K e tm' H' = some r → Q (exV e) a' w') → c.wp P Q a w := by
  intro cd
  induction cd with
  | skip =>
    intro c φ tm H a w K Q hok R h hQ
    cases c <;> first | (simp [okCd] at hok; done) | skip
    exact wp_skip (hQ .normal tm H φ a w R (Fr.refl X w) h)
  | reg d os =>
    intro c φ tm H a w K Q hok R h hQ
    cases c <;> first | (simp [okCd] at hok; done) | skip
    rename_i id ops draw
    simp only [okCd, Bool.and_eq_true, beq_iff_eq] at hok
    obtain ⟨_, hok⟩ := hok
    simp only [ev] at h
    rw [opsK_eq] at h
    obtain ⟨x, h1, h2⟩ := Option.bind_eq_some_iff.1 h
    exact reg_wp hm hC hE hok R h1 fun φ' a' w' R' hf => hQ .normal x.1 x.2 φ' a' w' R' hf h2
  | seq x y ihx ihy =>
    intro c φ tm H a w K Q hok R h hQ
    cases c <;> first | (simp [okCd] at hok; done) | skip
    simp only [okCd, Bool.and_eq_true] at hok
    simp only [ev] at h
    refine wp_seq (ihx hok.1 R h fun e tm' H' φ' a' w' R' hf hK => ?_)
    cases e with
    | normal => exact ihy hok.2 R' hK fun e tm2 H2 φ2 a2 w2 R2 hf2 hK2 => hQ e tm2 H2 φ2 a2 w2 R2 (hf.trans hf2) hK2
    | exit i => exact hQ (.exit i) tm' H' φ' a' w' R' hf hK
    | ret => exact hQ .ret tm' H' φ' a' w' R' hf hK
  | cond x y z ihy ihz =>
    intro c φ tm H a w K Q hok R h hQ
    cases c <;> first | (simp [okCd] at hok; done) | skip
    simp only [okCd, Bool.and_eq_true] at hok
    simp only [ev] at h
    split at h <;> first | (exfalso; revert h; simp; done) | skip
    rename_i b hb
    have hv := bool_val (xB_den R hok.1 hb)
    refine wp_cond hv ?_
    cases b with
    | true =>
      rw [if_pos rfl] at h ⊢
      exact ihy hok.2.1 R h hQ
    | false =>
      rw [if_neg (by simp)] at h ⊢
      exact ihz hok.2.2 R h hQ
  | block j d ih =>
    intro c φ tm H a w K Q hok R h hQ
    cases c <;> first | (simp [okCd] at hok; done) | skip
    rename_i i c
    simp only [okCd, Bool.and_eq_true] at hok
    obtain rfl := Nat.eq_of_beq_eq_true hok.1
    simp only [ev] at h
    refine wp_block (ih hok.2 R h fun e tm' H' φ' a' w' R' hf hK => ?_)
    cases e with
    | normal => exact hQ .normal tm' H' φ' a' w' R' hf hK
    | ret => exact hQ .ret tm' H' φ' a' w' R' hf hK
    | exit n =>
      simp only at hK
      simp only [exV, Exit.inBlock]
      cases hb : Nat.beq n i with
      | true =>
        rw [hb] at hK
        rw [if_pos (Nat.eq_of_beq_eq_true hb)]
        exact hQ .normal tm' H' φ' a' w' R' hf hK
      | false =>
        rw [hb] at hK
        rw [if_neg (fun he => by rw [he] at hb; simp at hb)]
        exact hQ (.exit n) tm' H' φ' a' w' R' hf hK
  | loop base keep d ih =>
    intro c φ tm H a w K Q hok R h hQ
    cases c <;> first | (simp [okCd] at hok; done) | skip
    rename_i c
    simp only [okCd] at hok
    simp only [ev] at h
    -- the head of a round
    have head : ∀ {n : Nat} {φ : Nat → Value} {tm : List S} {H : Hp} {a : Act} {w' : World}, Rel X φ tm H a w' → headK base keep (loopK (fun tm H K => ev C k d tm H K) base keep K n) tm H = some r →
        ∃ φ tm H, Rel X φ tm H a w' ∧ loopK (fun tm H K => ev C k d tm H K) base keep K n tm H = some r := fun {n φ tm H a w'} R h => by
      unfold headK at h
      cases hb : Nat.ble (base + (gather tm H keep).length) 900000 with
      | false => rw [hb] at h; cases h
      | true => rw [hb] at h; exact ⟨_, _, _, R.norm hX keep base (bleL hb), h⟩
    obtain ⟨φ0, tm0, H0, R0, h0⟩ := head R h
    refine wp_loop_ghost (fun n a' w' => ∃ φ tm H, Rel X φ tm H a' w' ∧ Fr X w w' ∧ loopK (fun tm H K => ev C k d tm H K) base keep K n tm H = some r) k ⟨φ0, tm0, H0, R0, Fr.refl X w, h0⟩ ?_
    rintro n a1 w1 ⟨φ1, tm1, H1, R1, hf1, h1⟩
    cases n with
    | zero => simp [loopK] at h1
    | succ n =>
      simp only [loopK] at h1
      refine ih hok R1 h1 fun e tm' H' φ' a' w' R' hf hK => ?_
      cases e with
      | normal =>
        obtain ⟨φ2, tm2, H2, R2, h2⟩ := head R' hK
        exact ⟨n, by omega, φ2, tm2, H2, R2, hf1.trans hf, h2⟩
      | exit i => exact hQ (.exit i) tm' H' φ' a' w' R' (hf1.trans hf) hK
      | ret => exact hQ .ret tm' H' φ' a' w' R' (hf1.trans hf) hK
  | exit j =>
    intro c φ tm H a w K Q hok R h hQ
    cases c <;> first | (simp [okCd] at hok; done) | skip
    simp only [okCd] at hok
    obtain rfl := Nat.eq_of_beq_eq_true hok
    exact wp_exit (hQ (.exit _) tm H φ a w R (Fr.refl X w) h)
  | ret =>
    intro c φ tm H a w K Q hok R h hQ
    cases c <;> first | (simp [okCd] at hok; done) | skip
    exact wp_ret (hQ .ret tm H φ a w R (Fr.refl X w) h)
end
end Pm
end
section
/- A function: its results leave it. -/
namespace Pm
open Go Go.RowKit

def okRV (P : Program) : ResultVar → RV → Bool
  | .tmp t, .t n => Nat.beq t n
  | .cell a t, .c n T => Nat.beq a n && tyOk P T t
  | _, _ => false
def okRVs (P : Program) : List ResultVar → List RV → Bool
  | [], [] => true
  | r :: rs, x :: xs => okRV P r x && okRVs P rs xs
  | _, _ => false
def okFn (P : Program) (ρ : Nat → Option Nat) (fn : Func) (f : Fn) : Bool :=
  Nat.ble f.np f.nt && (Nat.beq fn.ntmps f.nt && (okRVs P fn.results.toList f.res && match fn.body with
    | some c => okCd P ρ c f.body
    | none => false))

section
variable {P : Program} {X : Ctx} {φ : Nat → Value} {tm : List S} {H : Hp} {a : Act} {w : World} {C : CallF}

def resOf (tmps : Array Value) : ResultVar → Sem Value
  | .tmp t => pure (tmps.getD t undef)
  | .cell a t => do loadVar t (← asAddr (tmps.getD a undef))
def resX (tm : List S) (H : Hp) (x : RV) : Option D :=
  match x with
  | .t n => match tm[n]? with | some (.d d) => some d | _ => none
  | .c n t => match tm[n]? with | some (.d (.ptr m 0 [])) => ldAt H t m 0 [] | _ => none
theorem res1_den (R : Rel X φ tm H a w) {r : ResultVar} {x : RV} (h : okRV P r x = true) {d : D} (hd : resX tm H x = some d) :
    ∃ u, (resOf a.tmps r).run P w = .ok u w ∧ DDen X.ρ (okB X φ H w.heap.size) φ H w d u := by
  cases r with
  | tmp t =>
    cases x with
    | c => simp [okRV] at h
    | t n =>
      simp only [okRV] at h
      obtain rfl := Nat.eq_of_beq_eq_true h
      simp only [resX] at hd
      split at hd <;> first | (exfalso; revert hd; simp; done) | skip
      rename_i d0 h0
      injection hd with hd; subst hd
      exact ⟨_, rfl, R.tms _ _ h0⟩
  | cell at1 t =>
    cases x with
    | t => simp [okRV] at h
    | c n T =>
      simp only [okRV, Bool.and_eq_true] at h
      obtain ⟨h1, h2⟩ := h
      obtain rfl := Nat.eq_of_beq_eq_true h1
      simp only [resX] at hd
      split at hd <;> first | (exfalso; revert hd; simp; done) | skip
      rename_i m h0
      have hs := R.tms _ _ h0
      obtain ⟨u, h3, h4⟩ := ldI_den R h2 (d := .ptr m 0 []) (d' := d) hs hd
      refine ⟨u, ?_, h4⟩
      have hptr : ∃ ad, a.tmps.getD at1 undef = .pointer (some ad) := by
        obtain ⟨o, ho, hp⟩ := hs
        cases o with
        | dead => simp [ldAt, ho] at hd
        | arr e xs l => obtain ⟨_, _, b, _, hv⟩ := hp; exact ⟨_, hv⟩
        | box t d => obtain ⟨_, b, _, hv⟩ := hp; exact ⟨_, hv⟩
      obtain ⟨ad, hv⟩ := hptr
      rw [hv] at h3
      simp only [resOf, hv]
      exact h3
theorem res_den (R : Rel X φ tm H a w) : ∀ {rs : List ResultVar} {xs : List RV} {ds : List D}, okRVs P rs xs = true → resD tm H xs = some ds → ∃ us, (rs.mapM (resOf a.tmps)).run P w = .ok us w ∧ All2 (DDen X.ρ (okB X φ H w.heap.size) φ H w) ds us
  | [], [], ds, _, h => by
    simp only [resD, Option.some.injEq] at h; subst h
    exact ⟨[], by simp [List.mapM_nil], trivial⟩
  | r :: rs, x :: xs, ds, hok, h => by
    simp only [okRVs, Bool.and_eq_true] at hok
    simp only [resD] at h
    split at h <;> first | (exfalso; revert h; simp; done) | skip
    rename_i d ds' h1 h2
    injection h with h; subst h
    obtain ⟨u, k1, k2⟩ := res1_den R (x := x) hok.1 (show resX tm H x = some d from h1)
    obtain ⟨us, k3, k4⟩ := res_den R hok.2 h2
    exact ⟨u :: us, by rw [List.mapM_cons]; simp [k1, k3], k2, k4⟩
  | [], _ :: _, _, h, _ => by simp [okRVs] at h
  | _ :: _, [], _, h, _ => by simp [okRVs] at h
theorem results_den (R : Rel X φ tm H a w) {fn : Func} {f : Fn} (hok : okRVs P fn.results.toList f.res = true) {ds : List D} (h : resD tm H f.res = some ds) : ∃ us, (results fn a.tmps).run P w = .ok (retV us) w ∧ All2 (DDen X.ρ (okB X φ H w.heap.size) φ H w) ds us := by
  obtain ⟨us, h1, h2⟩ := res_den R hok h
  refine ⟨us, ?_, h2⟩
  have e : results fn a.tmps = (do
      let vs ← fn.results.mapM (resOf a.tmps)
      pure (if h : vs.size = 1 then vs[0] else .tuple vs)) := by
    unfold results
    congr 1
  rw [e, Array.mapM_eq_mapM_toList]
  simp only [Sem.run_bind, map_eq_pure_bind, h1]
  match us with
  | [] => rfl
  | [u] => rfl
  | u :: v :: us => rfl

/-- The rows that are handed over. -/
def ownN : List RT → List D → List Nat
  | .o _ :: rs, .ref n :: ds => n :: ownN rs ds
  | _ :: rs, _ :: ds => ownN rs ds
  | _, _ => []
def okM (X : Ctx) (φ : Nat → Value) (N : Nat) (M : List Nat) (b : Nat) : Prop := (X.ok0 b ∨ X.base ≤ b) ∧ b < N ∧ ∀ m ∈ M, blk (φ m) ≠ some b
theorem exps_inv {r : RT} {rts : List RT} {d : D} {ds : List D} {ns : List Nat} {rs : List D} (h : exps H (r :: rts) (d :: ds) = some (ns, rs)) :
    ∃ n1 d1 ns2 rs2, exp1 H r d = some (n1, d1) ∧ exps H rts ds = some (ns2, rs2) ∧ (∀ n ∈ n1, n ∉ ns2) ∧ ns = n1 ++ ns2 ∧ rs = d1 :: rs2 := by
  simp only [exps] at h
  split at h <;> first | (exfalso; revert h; simp; done) | skip
  rename_i x y h1 h2
  cases hb : x.1.any y.1.elem with
  | true => rw [hb] at h; cases h
  | false =>
    rw [hb] at h
    simp only [cond_false, Option.some.injEq, Prod.mk.injEq] at h
    obtain ⟨rfl, rfl⟩ := h
    refine ⟨x.1, x.2, y.1, y.2, h1, h2, fun n hn hm => ?_, rfl, rfl⟩
    rw [List.any_eq_false] at hb
    have := hb n hn
    simp at this
    exact this hm
theorem exp1_v {t : Ty} {d : D} {n1 : List Nat} {d1 : D} (h : exp1 H (.v t) d = some (n1, d1)) : ∃ x, snap H t d = some x ∧ d1 = .val t x ∧ ∀ n, d = .ref n → n ∈ n1 := by
  simp only [exp1, Option.map_eq_some_iff] at h
  obtain ⟨x, h1, h2⟩ := h
  simp only [Prod.mk.injEq] at h2
  obtain ⟨h2, rfl⟩ := h2
  exact ⟨x, h1, rfl, fun n hn => by subst hn; simp only at h2; rw [← h2]; simp⟩
theorem exp1_o {e : Ty} {d : D} {n1 : List Nat} {d1 : D} (h : exp1 H (.o e) d = some (n1, d1)) : (∃ n xs, d = .ref n ∧ H n = some (.arr e xs .lv) ∧ n1 = [n] ∧ d1 = .own e xs) ∨ (d = .nil ∧ d1 = .own e []) := by
  cases d with
  | ref n =>
    simp only [exp1] at h
    split at h <;> first | (exfalso; revert h; simp; done) | skip
    rename_i e' xs hn
    obtain ⟨y, h1, h2⟩ := Option.map_eq_some_iff.1 h
    obtain ⟨k1, k2⟩ := castT_some h1
    simp only [Prod.mk.injEq] at h2
    obtain ⟨rfl, rfl⟩ := h2
    cases k1
    obtain rfl : xs = y := k2
    exact .inl ⟨n, xs, rfl, hn, rfl, rfl⟩
  | nil =>
    simp only [exp1, Option.some.injEq, Prod.mk.injEq] at h
    exact .inr ⟨rfl, h.2.symm⟩
  | _ => simp [exp1] at h
theorem ownN_live : ∀ {rts : List RT} {ds : List D} {ns : List Nat} {rs : List D}, exps H rts ds = some (ns, rs) → ∀ n ∈ ownN rts ds, n ∈ ns ∧ ∃ e xs, H n = some (.arr e xs .lv)
  | [], ds, _, _, _, n, hn => by simp [ownN] at hn
  | r :: rts, [], _, _, _, n, hn => by cases r <;> simp [ownN] at hn
  | r :: rts, d :: ds, ns, rs, h, n, hn => by
    obtain ⟨n1, d1, ns2, rs2, h1, h2, h3, rfl, rfl⟩ := exps_inv h
    have tail : n ∈ ownN rts ds → n ∈ n1 ++ ns2 ∧ ∃ e xs, H n = some (.arr e xs .lv) := fun hn => by
      obtain ⟨k1, k2⟩ := ownN_live h2 n hn
      exact ⟨List.mem_append.2 (.inr k1), k2⟩
    cases r with
    | v t => exact tail (by cases d <;> exact hn)
    | o e =>
      rcases exp1_o h1 with ⟨m, xs, rfl, hm, rfl, rfl⟩ | ⟨rfl, rfl⟩
      · simp only [ownN, List.mem_cons] at hn
        rcases hn with rfl | hn
        · exact ⟨by simp, e, xs, hm⟩
        · exact tail hn
      · exact tail hn
theorem frz_row {d : D} {m : Nat} {e : Ty} {xs : List e.I} (hm : H m = some (.arr e xs .lv)) (hne : d ≠ .ref m) : frz H d m = some (.arr e xs .lv) := by
  rw [frz_eff]
  simp only [eff, nil]
  have : frD d m = false := by
    cases d with
    | ref n =>
      simp only [frD]
      cases hb : Nat.beq m n with
      | false => rfl
      | true => exact absurd (by rw [Nat.eq_of_beq_eq_true hb]) hne
    | _ => rfl
  rw [this]; exact hm
theorem exps_r (hwr : ∀ b, ¬ X.wr b) (R : Rel X φ tm H a w) : ∀ {rts : List RT} {ds : List D} {us : List Value} {ns : List Nat} {rs : List D}, All2 (DDen X.ρ (okB X φ H w.heap.size) φ H w) ds us → exps H rts ds = some (ns, rs) →
    ∀ M : List Nat, (∀ m ∈ M, ∃ e xs, H m = some (.arr e xs .lv)) → (∀ m ∈ M, m ∈ ns → m ∈ ownN rts ds) → All2 (RDen (okM X φ w.heap.size M) X.base w) rs us
  | [], [], [], ns, rs, _, h, M, _, _ => by
    simp only [exps, Option.some.injEq, Prod.mk.injEq] at h
    rw [← h.2]; trivial
  | r :: rts, d :: ds, u :: us, ns, rs, ⟨hd, hds⟩, h, M, hM, hN => by
    obtain ⟨n1, d1, ns2, rs2, h1, h2, h3, rfl, rfl⟩ := exps_inv h
    have ih := fun hN' => exps_r hwr R hds h2 M hM hN'
    have up : ∀ b, okB X φ H w.heap.size b → okM X φ w.heap.size M b := fun b hb => ⟨hb.1, hb.2.1, fun m hm => by
      obtain ⟨e, xs, h⟩ := hM m hm; exact hb.2.2 m _ h rfl⟩
    cases r with
    | v t =>
      obtain ⟨x, hx, rfl, hn⟩ := exp1_v h1
      have own : ownN (.v t :: rts) (d :: ds) = ownN rts ds := by cases d <;> rfl
      rw [own] at hN
      refine ⟨?_, ih fun m hm hm2 => hN m hm (List.mem_append.2 (.inr hm2))⟩
      refine (snap_den R hd hx).mono (fun b hb => ⟨hb.1, hb.2.1, fun m hm => ?_⟩) (fun _ _ => rfl)
      obtain ⟨e, xs, hm'⟩ := hM m hm
      refine hb.2.2 m _ (frz_row hm' fun he => ?_) rfl
      have := hn m he
      exact h3 m this (ownN_live h2 m (hN m hm (List.mem_append.2 (.inl this)))).1
    | o e =>
      rcases exp1_o h1 with ⟨n, xs, rfl, hn, rfl, rfl⟩ | ⟨rfl, rfl⟩
      · refine ⟨?_, ih fun m hm hm2 => ?_⟩
        · obtain ⟨T, cs, hr, he⟩ := R.obs n _ hn
          obtain ⟨rfl, _⟩ := hd
          exact ⟨T, cs, hr, fun i hi => (he i hi).mono up (fun _ _ => rfl), fun b hb => by have := R.mine n _ b hn rfl hb; simpa [Ob.isIo] using this⟩
        · have := hN m hm (List.mem_append.2 (.inr hm2))
          simp only [ownN, List.mem_cons] at this
          rcases this with rfl | this
          · exact absurd hm2 (h3 m (by simp))
          · exact this
      · obtain rfl : u = .slice none 0 0 := hd
        refine ⟨⟨0, [], World.ownsRow_nil w _ _ _, fun i hi => absurd hi (by simp), fun b hb => by cases hb⟩, ih fun m hm hm2 => hN m hm (List.mem_append.2 (.inr hm2))⟩
  | [], [], _ :: _, _, _, h, _, _, _, _ => h.elim
  | [], _ :: _, _, _, _, _, h, _, _, _ => by simp [exps] at h
  | _ :: _, [], _, _, _, _, h, _, _, _ => by simp [exps] at h
  | _ :: _, _ :: _, [], _, _, h, _, _, _, _ => h.elim
theorem exps_own (R : Rel X φ tm H a w) : ∀ {rts : List RT} {ds : List D} {us : List Value} {ns : List Nat} {rs : List D}, All2 (DDen X.ρ (okB X φ H w.heap.size) φ H w) ds us → exps H rts ds = some (ns, rs) →
    (∀ u ∈ ownVals rs us, ∀ b, blk u = some b → ∃ n ∈ ownN rts ds, u = φ n) ∧ OwnApart rs us
  | [], [], [], ns, rs, _, h => by
    simp only [exps, Option.some.injEq, Prod.mk.injEq] at h
    rw [← h.2]; exact ⟨by simp [ownVals], trivial⟩
  | r :: rts, d :: ds, u :: us, ns, rs, ⟨hd, hds⟩, h => by
    obtain ⟨n1, d1, ns2, rs2, h1, h2, h3, rfl, rfl⟩ := exps_inv h
    obtain ⟨k1, k2⟩ := exps_own R hds h2
    cases r with
    | v t =>
      obtain ⟨x, hx, rfl, hn⟩ := exp1_v h1
      have own : ownN (.v t :: rts) (d :: ds) = ownN rts ds := by cases d <;> rfl
      rw [own]
      exact ⟨k1, fun h => (by cases h), k2⟩
    | o e =>
      rcases exp1_o h1 with ⟨n, xs, rfl, hn, rfl, rfl⟩ | ⟨rfl, rfl⟩
      · obtain ⟨rfl, _⟩ := hd
        refine ⟨fun u' hu b hb => ?_, fun _ u' hu b hb hb' => ?_, k2⟩
        · simp only [ownVals, D.isOwn, cond_true, List.mem_cons] at hu
          rcases hu with rfl | hu
          · exact ⟨n, by simp [ownN], rfl⟩
          · obtain ⟨m, h4, h5⟩ := k1 u' hu b hb
            exact ⟨m, by simp [ownN, h4], h5⟩
        · obtain ⟨m, h4, rfl⟩ := k1 u' hu b hb'
          obtain ⟨h5, e', xs', hm⟩ := ownN_live h2 m h4
          have hne : n ≠ m := fun he => h3 n (by simp) (he ▸ h5)
          exact R.apart n m _ _ b hne hn hm rfl rfl hb hb'
      · obtain rfl : u = .slice none 0 0 := hd
        refine ⟨fun u' hu b hb => ?_, fun _ u' hu b hb => (by cases hb), k2⟩
        simp only [ownVals, D.isOwn, cond_true, List.mem_cons] at hu
        rcases hu with rfl | hu
        · cases hb
        · exact k1 u' hu b hb
  | [], [], _ :: _, _, _, h, _ => h.elim
  | [], _ :: _, _, _, _, _, h => by simp [exps] at h
  | _ :: _, [], _, _, _, _, h => by simp [exps] at h
  | _ :: _, _ :: _, [], _, _, h, _ => h.elim
end
end Pm
end
section
/- Functions: what the plain reading says of a call. -/
namespace Pm
open Go Go.RowKit

section
variable {P : Program} {ρ : Nat → Option Nat} {C : CallF} {w : World}

theorem all2_map {α β γ : Type} {p : β → γ → Prop} {f : α → β} : ∀ {l : List α} {m : List γ}, All2 (fun a c => p (f a) c) l m → All2 p (l.map f) m
  | [], [], _ => trivial
  | _ :: _, _ :: _, ⟨h, t⟩ => ⟨h, all2_map t⟩
  | [], _ :: _, h => h.elim
  | _ :: _, [], h => h.elim
theorem not_own {ok : Nat → Prop} : ∀ {as : List D} {vs : List Value}, All2 (PDen ρ ok w) as vs → inS as = as.map .d ∧ inH as = (fun _ => none) ∧ ∀ H, ioOut H as = some []
  | [], _, _ => ⟨rfl, rfl, fun _ => rfl⟩
  | a :: as, v :: vs, ⟨h, _⟩ => by
    cases a <;> first | exact h.elim | exact ⟨rfl, rfl, fun _ => rfl⟩
  | _ :: _, [], h => h.elim
theorem getD_app {as : List S} {vs : Array Value} {n i : Nat} {s : S} {p : S → Value → Prop} (h : All2 p as vs.toList) (hu : ∀ v, p (.d .undef) v) (hi : (as ++ List.replicate n (.d .undef))[i]? = some s) : p s ((vs ++ Array.replicate n undef).getD i undef) := by
  rcases Nat.lt_or_ge i as.length with h1 | h1
  · rw [List.getElem?_append_left h1] at hi
    obtain ⟨v, h2, h3⟩ := h.get i s hi
    have hlt : i < vs.size := by rw [← Array.length_toList, ← h.length]; exact h1
    have : (vs ++ Array.replicate n undef).getD i undef = v := by
      have hv : vs[i]? = some v := by simpa using h2
      rw [Array.getD_eq_getD_getElem?, Array.getElem?_append_left hlt, hv]; rfl
    rw [this]; exact h3
  · rw [List.getElem?_append_right h1] at hi
    have := List.mem_of_getElem? hi
    rw [List.mem_replicate] at this
    rw [this.2]; exact hu _
/-- A function that is given data. -/
theorem run_plain (hm : P.follows .mixedOrders = true) (hC : CallsOk P ρ C) (hE : ∀ fid g, ρ fid = some g → enterB P fid = true) {fid : Nat} {fn : Func} {c : Code} {f : Fn} (hf : P.funcs[fid]? = some fn) (hb : fn.body = some c) (hok : okFn P ρ fn f = true) {k : Nat} {as rs : List D} {vs : List Value} {ok : Nat → Prop}
    (h : runF C k f as = some rs) (hlt : ∀ b, ok b → b < w.heap.size) (ha : All2 (PDen ρ ok w) as vs) :
    Calls P fid vs.toArray w fun en w' => ∃ us, en = .returned (retV us) ∧ Fr (ctxOf ρ ok w (fun _ => False) undef) w w' ∧ All2 (RDen (okR ok w w' rs us) w.heap.size w') rs us ∧ OwnApart rs us := by
  simp only [okFn, Bool.and_eq_true, hb] at hok
  obtain ⟨hnp, hnt, hres, hcd⟩ := hok
  have hnp := bleL hnp
  have hnt := Nat.eq_of_beq_eq_true hnt
  obtain ⟨i1, i2, i3⟩ := not_own ha
  unfold runF at h
  cases hl : Nat.beq as.length f.np with
  | false => rw [hl] at h; cases h
  | true =>
    rw [hl] at h
    have hl := Nat.eq_of_beq_eq_true hl
    simp only [cond_true, i1, i2] at h
    have hvl : vs.length = f.np := by rw [← ha.length]; exact hl
    let X := ctxOf ρ ok w (fun _ => False) undef
    have hsz : fn.ntmps - vs.toArray.size = f.nt - f.np := by simp [hnt, hvl]
    have R : Rel X (fun _ => undef) (as.map .d ++ List.replicate (f.nt - f.np) (.d .undef)) (fun _ => none) { tmps := vs.toArray ++ Array.replicate (f.nt - f.np) undef, defers := [] } w :=
      { len := by simp [hl, hvl]
        tms := fun i s hs => getD_app (p := SDen ρ (okB X (fun _ => undef) (fun _ => none) w.heap.size) (fun _ => undef) (fun _ => none) w) (vs := vs.toArray)
          (by simpa using all2_map (ha.imp fun d v hd => (show SDen ρ (okB X (fun _ => undef) (fun _ => none) w.heap.size) (fun _ => undef) (fun _ => none) w (.d d) v from DDen.mono (fun b hb => ⟨.inl hb, hlt b hb, fun _ _ h => by cases h⟩) (fun _ _ => rfl) (fun _ _ h => by cases h) hd))) (fun _ => trivial) hs
        obs := fun _ _ h => by cases h
        mine := fun _ _ _ h => by cases h
        apart := fun _ _ _ _ _ _ h => by cases h
        bnd := Nat.le_refl _
        ok0 := fun b hb => ⟨hlt b hb, id⟩
        wr := fun b hb => hb.elim
        dfs := rfl
        iov := fun _ _ h => by cases h }
    refine calls_of_wp hf hb ?_
    rw [hsz]
    refine ev_wp (X := X) hm hC hE (fun _ _ => rfl) k f.body hcd R h fun e tm' H' φ' a' w' R' hf hK => ?_
    have fin : leave f as tm' H' = some rs → a'.defers = [] ∧ ∃ v, (results fn a'.tmps).run P w' = .ok v w' ∧ ∃ us, Ending.returned v = .returned (retV us) ∧ Fr (ctxOf ρ ok w (fun _ => False) undef) w w' ∧ All2 (RDen (okR ok w w' rs us) w.heap.size w') rs us ∧ OwnApart rs us := fun hK => by
      refine ⟨R'.dfs, ?_⟩
      unfold leave at hK
      split at hK <;> first | (exfalso; revert hK; simp; done) | skip
      rename_i ds hds
      split at hK <;> first | (exfalso; revert hK; simp; done) | skip
      rename_i ns rs0 os hexp hio
      rw [i3] at hio
      injection hio with hio; subst hio
      simp only [List.isEmpty_nil, Bool.true_or, cond_true, List.append_nil, Option.some.injEq] at hK
      subst hK
      obtain ⟨us, h1, h2⟩ := results_den R' hres hds
      have hM := fun m hm => (ownN_live hexp m hm).2
      have r1 := exps_r (X := X) (fun _ h => h) R' h2 hexp (ownN f.rs ds) hM (fun m hm _ => hm)
      obtain ⟨r2, r3⟩ := exps_own R' h2 hexp
      refine ⟨retV us, h1, us, rfl, hf, r1.imp fun d u hd => ?_, r3⟩
      have up : ∀ b, okM X φ' w'.heap.size (ownN f.rs ds) b → okR ok w w' rs0 us b := fun b hb => ⟨hb.1, hb.2.1, fun u hu hbu => by
        obtain ⟨n, hn, rfl⟩ := r2 u hu b hbu
        exact hb.2.2 n hn hbu⟩
      cases d with
      | val t x => exact VV.mono up (fun _ _ => rfl) hd
      | own e xs => obtain ⟨T, cs, k1, k2, k3⟩ := hd; exact ⟨T, cs, k1, fun i hi => (k2 i hi).mono up (fun _ _ => rfl), k3⟩
      | _ => exact hd.elim
    cases e with
    | normal => exact fin hK
    | ret => exact fin hK
    | exit i => cases hK
/-- A function that is given a row to write. -/
theorem run_io (hm : P.follows .mixedOrders = true) (hC : CallsOk P ρ C) (hE : ∀ fid g, ρ fid = some g → enterB P fid = true) {fid : Nat} {fn : Func} {c : Code} {f : Fn} (hf : P.funcs[fid]? = some fn) (hb : fn.body = some c) (hok : okFn P ρ fn f = true) {k : Nat} {e : Ty} {xs : List e.I} {rs : List D} {v : Value} {ok : Nat → Prop}
    (h : runF C k f [.own e xs] = some rs) (hlt : ∀ b, ok b → b < w.heap.size ∧ blk v ≠ some b) (hbl : ∀ b, blk v = some b → b < w.heap.size) (hrow : ∃ T cs, w.ownsRow 0 T e.sz v xs.length cs ∧ ElemsD ok w e xs cs) :
    Calls P fid #[v] w fun en w' => ∃ xs' v', rs = [.own e xs'] ∧ en = .returned v' ∧ xs'.length = xs.length ∧ Fr (ctxOf ρ ok w (fun b => blk v = some b) v) w w' ∧ ∃ T cs, w'.ownsRow 0 T e.sz v xs'.length cs ∧ ElemsD (fun b => (ok b ∨ w.heap.size ≤ b) ∧ b < w'.heap.size ∧ blk v ≠ some b) w' e xs' cs := by
  simp only [okFn, Bool.and_eq_true, hb] at hok
  obtain ⟨hnp, hnt, hres, hcd⟩ := hok
  have hnp := bleL hnp
  have hnt := Nat.eq_of_beq_eq_true hnt
  unfold runF at h
  cases hl : Nat.beq [D.own e xs].length f.np with
  | false => rw [hl] at h; cases h
  | true =>
    rw [hl] at h
    have hl : 1 = f.np := Nat.eq_of_beq_eq_true hl
    simp only [cond_true] at h
    obtain ⟨T, cs, hr, he⟩ := hrow
    have lenv : ∀ {w : World} {n : Nat} {T : TypeId} {cs : List Value}, w.ownsRow 0 T e.sz v n cs → ∃ A c, v = .slice A n c := fun h => by
      rcases h.2 with ⟨h1, h2⟩ | ⟨g, cap, cur, hv, _⟩
      · exact ⟨none, 0, by rw [h1, h2]⟩
      · exact ⟨_, _, hv⟩
    let X := ctxOf ρ ok w (fun b => blk v = some b) v
    have hsz : fn.ntmps - (#[v] : Array Value).size = f.nt - f.np := by simp [hnt, ← hl]
    have one : v.oneCell' = true := by obtain ⟨A, c, hv⟩ := lenv hr; rw [hv]; rfl
    have hget : ∀ n o, inH [.own e xs] n = some o → n = 900000 ∧ o = .arr e xs .io := fun n o hn => by
      rcases upd_cases (H := fun _ => none) (n := 900000) (o := .arr e xs .io) hn with ⟨h1, h2⟩ | ⟨_, h⟩
      · exact ⟨h1, h2⟩
      · cases h
    have hat : inH [.own e xs] 900000 = some (.arr e xs .io) := upd_same (fun _ => none) 900000 (.arr e xs .io)
    have R : Rel X (fun _ => v) ([.d (.ref 900000)] ++ List.replicate (f.nt - f.np) (.d .undef)) (inH [.own e xs]) { tmps := #[v] ++ Array.replicate (f.nt - f.np) undef, defers := [] } w :=
      { len := by simp; omega
        tms := fun i s hs => getD_app (p := SDen ρ (okB X (fun _ => v) (inH [.own e xs]) w.heap.size) (fun _ => v) (inH [.own e xs]) w) (vs := #[v]) (as := [.d (.ref 900000)])
          ⟨⟨rfl, one, _, hat, rfl⟩, trivial⟩ (fun _ => trivial) hs
        obs := fun n o hn => by
          obtain ⟨rfl, rfl⟩ := hget n o hn
          exact ⟨T, cs, hr, fun i hi => (he i hi).mono (fun b hb => ⟨.inl hb, (hlt b hb).1, fun n o hn _ => (hlt b hb).2⟩) (fun _ _ => rfl)⟩
        mine := fun n o b hn _ hb => by obtain ⟨rfl, rfl⟩ := hget n o hn; exact hb
        apart := fun n m o o' b hne hn hm => by obtain ⟨rfl, _⟩ := hget n o hn; obtain ⟨rfl, _⟩ := hget m o' hm; exact absurd rfl hne
        bnd := Nat.le_refl _
        ok0 := fun b hb => ⟨(hlt b hb).1, fun hw => (hlt b hb).2 hw⟩
        wr := fun b hb => hbl b hb
        dfs := rfl
        iov := fun _ _ _ _ => rfl }
    refine calls_of_wp hf hb ?_
    rw [hsz]
    refine ev_wp (X := X) hm hC hE (fun _ _ => rfl) k f.body hcd R h fun ex tm' H' φ' a' w' R' hf hK => ?_
    have fin : leave f [.own e xs] tm' H' = some rs → a'.defers = [] ∧ ∃ u, (results fn a'.tmps).run P w' = .ok u w' ∧ ∃ xs' v', rs = [.own e xs'] ∧ Ending.returned u = .returned v' ∧ xs'.length = xs.length ∧ Fr (ctxOf ρ ok w (fun b => blk v = some b) v) w w' ∧ ∃ T cs, w'.ownsRow 0 T e.sz v xs'.length cs ∧ ElemsD (fun b => (ok b ∨ w.heap.size ≤ b) ∧ b < w'.heap.size ∧ blk v ≠ some b) w' e xs' cs := fun hK => by
      refine ⟨R'.dfs, ?_⟩
      unfold leave at hK
      split at hK <;> first | (exfalso; revert hK; simp; done) | skip
      rename_i ds hds
      split at hK <;> first | (exfalso; revert hK; simp; done) | skip
      rename_i ns rs0 os hexp hio
      simp only [ioOut] at hio
      split at hio <;> first | (exfalso; revert hio; simp; done) | skip
      rename_i e' ys hy
      obtain ⟨zs, h1, h2⟩ := Option.map_eq_some_iff.1 hio
      obtain ⟨k1, k2⟩ := castT_some h1
      subst h2
      cases k1
      obtain rfl : ys = zs := k2
      cases hem : rs0.isEmpty with
      | false => rw [hem] at hK; simp at hK
      | true =>
        rw [hem] at hK
        simp only [Bool.or_true, cond_true, Option.some.injEq] at hK
        rw [List.isEmpty_iff] at hem
        subst hem
        simp only [List.nil_append] at hK
        subst hK
        obtain ⟨us, h3, _⟩ := results_den R' hres hds
        obtain ⟨T', cs', hr', he'⟩ := R'.obs _ _ hy
        have hφ : φ' 900000 = v := R'.iov _ _ hy rfl
        rw [hφ] at hr'
        refine ⟨retV us, h3, ys, retV us, rfl, rfl, ?_, hf, T', cs', hr', fun i hi => (he' i hi).mono (fun b hb => ⟨hb.1, hb.2.1, ?_⟩) (fun _ _ => rfl)⟩
        · obtain ⟨A, c, h4⟩ := lenv hr
          obtain ⟨A', c', h5⟩ := lenv hr'
          rw [h4] at h5
          injection h5 with _ h6 _
          exact h6.symm
        · have := hb.2.2 _ _ hy rfl
          rw [hφ] at this; exact this
    cases ex with
    | normal => exact fin hK
    | ret => exact fin hK
    | exit i => cases hK

def Less (C C' : CallF) : Prop := ∀ f as r, C f as = some r → C' f as = some r
theorem bind_mono {α β : Type} {x : Option α} {f g : α → Option β} {r : β} (h : ∀ a, f a = some r → g a = some r) (hx : x.bind f = some r) : x.bind g = some r := by
  cases x with
  | none => cases hx
  | some a => exact h a hx
theorem opK_mono {C C' : CallF} (hC : Less C C') {o : Op} {tm : List S} {H : Hp} {K K' : List S → Hp → Option R} {r : R} (hK : ∀ tm H, K tm H = some r → K' tm H = some r) (h : opK C o tm H K = some r) : opK C' o tm H K' = some r := by
  unfold opK at h ⊢
  split at h
  · cases h
  · rename_i ss he
    split
    · rename_i nm f rs io hi
      rw [hi] at h
      simp only at h
      split at h <;> first | cases h | skip
      rename_i c hc
      obtain ⟨y, h1, h2⟩ := Option.bind_eq_some_iff.1 h
      have h3 : callT C' c.rs c.f c.as = some y := by
        unfold callT at h1 ⊢
        obtain ⟨ds, h4, h5⟩ := Option.bind_eq_some_iff.1 h1
        rw [hC _ _ _ h4]; exact h5
      rw [h3]
      simp only [Option.bind_some]
      cases hf : c.fin y with
      | none => rw [hf] at h2; cases h2
      | some z => rw [hf] at h2; exact hK _ _ h2
    · rename_i hni
      have fin : ∀ q : Option (Chk × S × Hp), (match q with
          | some (c, s, H') => @ite _ c.p c.dec (K (setT tm o.dst s) H') none
          | none => none) = some r → (match q with
          | some (c, s, H') => @ite _ c.p c.dec (K' (setT tm o.dst s) H') none
          | none => none) = some r := fun q hq => by
        cases q with
        | none => cases hq
        | some q =>
          obtain ⟨c, s, H'⟩ := q
          simp only at hq ⊢
          by_cases hp : c.p
          · rw [@if_pos _ c.dec hp] at hq ⊢; exact hK _ _ hq
          · rw [@if_neg _ c.dec hp] at hq; cases hq
      have hn : ∀ nm f rs io, o.i ≠ .call nm f rs io := fun nm f rs io he => hni nm f rs io he
      revert h hni hn
      generalize o.i = i
      intro h hni hn
      cases i <;> first | exact absurd rfl (hn _ _ _ _) | exact fin _ h
theorem opsK_mono {C C' : CallF} (hC : Less C C') {r : R} : ∀ {os : List Op} {tm : List S} {H : Hp} {K K' : List S → Hp → Option R}, (∀ tm H, K tm H = some r → K' tm H = some r) → opsK C os tm H K = some r → opsK C' os tm H K' = some r
  | [], _, _, _, _, hK, h => hK _ _ h
  | o :: os, tm, H, K, K', hK, h => by
    have one : ∀ tm, opK C o tm H (fun tm' H' => opsK C os tm' H' K) = some r → opK C' o tm H (fun tm' H' => opsK C' os tm' H' K') = some r := fun tm h => opK_mono hC (fun _ _ h => opsK_mono hC hK h) h
    simp only [opsK] at h ⊢
    cases hg : o.grd with
    | none => rw [hg] at h; exact one tm h
    | some g =>
      obtain ⟨j, w⟩ := g
      rw [hg] at h
      simp only at h ⊢
      cases hj : tm[j]? with
      | none => rw [hj] at h; cases h
      | some s => cases s with
        | tup => rw [hj] at h; cases h
        | d d => cases d with
          | val t x => cases t with
            | bool =>
              rw [hj] at h
              simp only at h ⊢
              cases x <;> cases w <;> simp only [if_true, if_false, Bool.false_eq_true, cond_true, cond_false] at h ⊢
              · exact one _ h
              · exact opsK_mono hC hK h
              · exact opsK_mono hC hK h
              · exact one _ h
            | _ => rw [hj] at h; cases h
          | skp => rw [hj] at h; exact opsK_mono hC hK h
          | _ => rw [hj] at h; cases h
theorem ev_mono {C C' : CallF} (hC : Less C C') {k k' : Nat} (hk : k ≤ k') {r : R} : ∀ (cd : Cd) {tm : List S} {H : Hp} {K K' : Kt}, (∀ e tm H, K e tm H = some r → K' e tm H = some r) → ev C k cd tm H K = some r → ev C' k' cd tm H K' = some r := by
  intro cd
  induction cd with
  | skip => intro tm H K K' hK h; exact hK _ _ _ h
  | reg d os => intro tm H K K' hK h; exact opsK_mono hC (fun tm H h => hK _ _ _ h) h
  | seq a b iha ihb =>
    intro tm H K K' hK h
    refine iha (fun e tm H h => ?_) h
    cases e with
    | normal => exact ihb hK h
    | exit i => exact hK _ _ _ h
    | ret => exact hK _ _ _ h
  | cond x a b iha ihb =>
    intro tm H K K' hK h
    simp only [ev] at h ⊢
    split at h <;> first | (exfalso; revert h; simp; done) | skip
    rename_i c hc
    cases c <;> simp only [if_true, if_false, Bool.false_eq_true] at h ⊢
    · exact ihb hK h
    · exact iha hK h
  | block id c ih =>
    intro tm H K K' hK h
    refine ih (fun e tm H h => ?_) h
    cases e with
    | normal => exact hK _ _ _ h
    | ret => exact hK _ _ _ h
    | exit i =>
      simp only at h ⊢
      cases hb : Nat.beq i id with
      | true => rw [hb] at h; exact hK _ _ _ h
      | false => rw [hb] at h; exact hK _ _ _ h
  | loop base keep c ih =>
    intro tm H K K' hK h
    have lp : ∀ (n n' : Nat), n ≤ n' → ∀ {tm : List S} {H : Hp}, loopK (fun tm H K => ev C k c tm H K) base keep K n tm H = some r → loopK (fun tm H K => ev C' k' c tm H K) base keep K' n' tm H = some r := by
      intro n
      induction n with
      | zero => intro n' _ tm H h; cases h
      | succ n ihn =>
        intro n' hn tm H h
        cases n' with
        | zero => omega
        | succ n' =>
          simp only [loopK] at h ⊢
          refine ih (fun e tm H h => ?_) h
          cases e with
          | normal =>
            simp only [headK] at h ⊢
            cases hb : Nat.ble (base + (gather tm H keep).length) 900000 with
            | true => rw [hb] at h; exact ihn n' (by omega) h
            | false => rw [hb] at h; cases h
          | exit i => exact hK _ _ _ h
          | ret => exact hK _ _ _ h
    simp only [ev, headK] at h ⊢
    cases hb : Nat.ble (base + (gather tm H keep).length) 900000 with
    | true => rw [hb] at h; exact lp k k' hk h
    | false => rw [hb] at h; cases h
  | exit i => intro tm H K K' hK h; exact hK _ _ _ h
  | ret => intro tm H K K' hK h; exact hK _ _ _ h
theorem runF_mono {C C' : CallF} (hC : Less C C') {k k' : Nat} (hk : k ≤ k') {f : Fn} {as : List D} {r : R} (h : runF C k f as = some r) : runF C' k' f as = some r := by
  unfold runF at h ⊢
  cases hb : Nat.beq as.length f.np with
  | false => rw [hb] at h; cases h
  | true => rw [hb] at h; exact ev_mono hC hk _ (fun _ _ _ h => h) h
theorem evF_mono {G : Nat → Option Fn} : ∀ {k k' : Nat}, k ≤ k' → Less (evF G k) (evF G k')
  | 0, _, _, _, _, _, h => by cases h
  | k + 1, 0, hk, _, _, _, _ => by omega
  | k + 1, k' + 1, hk, f, as, r, h => by
    have ih : Less (evF G k) (evF G k') := evF_mono (by omega)
    simp only [evF] at h ⊢
    split at h <;> first | (exfalso; revert h; simp; done) | skip
    rename_i fn hf
    split at h
    · rename_i hs; exact runF_mono ih (by omega) h
    · rename_i e hs
      split at h <;> first | (exfalso; revert h; simp; done) | skip
      rename_i t x
      split at h <;> first | (exfalso; revert h; simp; done) | skip
      exact runF_mono ih (by omega) h

def noC : CallF := fun _ _ => none
theorem noC_less (C : CallF) : Less noC C := fun _ _ _ h => by cases h
/-- The program's functions and their readings. -/
def Table (P : Program) (ρ : Nat → Option Nat) (G : Nat → Option Fn) : Prop :=
  ∀ fid g, ρ fid = some g → ∃ fn f, P.funcs[fid]? = some fn ∧ G g = some f ∧ okFn P ρ fn f = true ∧ enterB P fid = true ∧
    ∀ e, f.sp = some e → runF noC 0 f [.nil] = some [.own e []] ∧ runF noC 0 f [.nn e []] = some [.own e []]
theorem okFn_body {fn : Func} {f : Fn} (h : okFn P ρ fn f = true) : ∃ c, fn.body = some c := by
  cases hb : fn.body with
  | some c => exact ⟨c, rfl⟩
  | none => simp [okFn, hb] at h
/-- THE PLAIN READING IS RIGHT. -/
theorem evF_ok {G : Nat → Option Fn} (hm : P.follows .mixedOrders = true) (hT : Table P ρ G) : ∀ k, CallsOk P ρ (evF G k)
  | 0 => ⟨fun _ _ _ _ _ _ _ _ h => (by cases h), fun _ _ _ _ _ _ _ _ _ h => (by cases h)⟩
  | k + 1 => by
    have ih := evF_ok hm hT k
    have hE : ∀ fid g, ρ fid = some g → enterB P fid = true := fun fid g h => by obtain ⟨_, _, _, _, _, h, _⟩ := hT fid g h; exact h
    refine ⟨fun g fid as rs w vs ok hρ h hlt ha => ?_, fun g fid e xs rs w v ok hρ h hlt hbl hrow => ?_⟩
    · obtain ⟨fn, f, h1, h2, h3, _, h5⟩ := hT fid g hρ
      obtain ⟨c, hc⟩ := okFn_body h3
      simp only [evF, h2] at h
      split at h
      · exact run_plain hm ih hE h1 hc h3 h hlt ha
      · rename_i e hs
        split at h <;> first | (exfalso; revert h; simp; done) | skip
        rename_i t x
        split at h <;> first | (exfalso; revert h; simp; done) | skip
        rename_i xs hx
        obtain ⟨k1, k2⟩ := castT_some hx
        cases k1
        obtain rfl : x = xs := k2
        match vs, ha with
        | [v], ⟨hv, _⟩ =>
          obtain ⟨cs, ⟨A, cc, rfl, hl, hr⟩, rfl⟩ := hv
          cases A with
          | some ad => exact run_plain hm ih hE h1 hc h3 h hlt ⟨⟨ad, cc, rfl, hl.1, hr⟩, trivial⟩
          | none =>
            have h0 : List.length x = 0 := rows_nil hr rfl
            have hx0 : x = [] := List.eq_nil_of_length_eq_zero h0
            subst hx0
            have hc0 := hl.2 rfl
            subst hc0
            obtain ⟨s1, s2⟩ := h5 e hs
            have e1 := runF_mono (noC_less (evF G k)) (Nat.zero_le k) s2
            rw [e1] at h
            injection h with h; subst h
            exact run_plain hm ih hE h1 hc h3 (runF_mono (noC_less (evF G k)) (Nat.zero_le k) s1) hlt ⟨rfl, trivial⟩
    · obtain ⟨fn, f, h1, h2, h3, _, h5⟩ := hT fid g hρ
      obtain ⟨c, hc⟩ := okFn_body h3
      simp only [evF, h2] at h
      split at h
      · exact run_io hm ih hE h1 hc h3 h hlt hbl hrow
      · cases h
end
end Pm
end
section
/- A row: what came in reads as plain data; the call runs as the plain reading says. -/
namespace Pm
open Go Go.RowKit Go.ChangeShapes Go.WideShapes

/-- What data that came in keeps to. -/
def wf : (t : Ty) → t.I → Prop
  | .int k, x => (Lit.int k x).wf = true
  | .bool, _ => True
  | .str, x => ByteArray.size x ≤ maxLen
  | .unit, _ => True
  | .pair a b, x => wf a x.1 ∧ wf b x.2
  | .sl e, xs => List.length xs ≤ maxLen ∧ ∀ x ∈ (xs : List e.I), wf e x
/-- No slice of things without a size. -/
def solid : Ty → Bool
  | .pair a b => solid a && solid b
  | .sl e => Nat.blt 0 e.sz && solid e
  | _ => true

section
variable {P : Program} {H : Type} {enc : TypeId × Value → H} {W : World} {sp : Nat → Bool} {hd : Bool}

theorem cells_of {T : Ty} {t : TypeId} (h : infoB P T t = true) : P.cellsOf t = T.sz := by
  unfold infoB at h
  split at h
  · rename_i i hi
    simp only [Bool.and_eq_true] at h
    rw [Program.cellsOf, hi]; exact Nat.eq_of_beq_eq_true h.1.1
  · cases h
theorem cell_lt {a : Addr} {v : Value} (h : W.cell? a = some v) : a.block < W.heap.size := by
  unfold World.cell? at h
  split at h
  · rename_i hb; exact (Array.getElem?_eq_some_iff.1 hb).1
  · cases h
theorem list_of {α : Type} {p : Nat → α → Prop} : ∀ (n : Nat), (∀ i, i < n → ∃ x, p i x) → ∃ xs : List α, xs.length = n ∧ ∀ i (h : i < xs.length), p i xs[i]
  | 0, _ => ⟨[], rfl, fun i h => by cases h⟩
  | n + 1, h => by
    obtain ⟨x, hx⟩ := h 0 (by omega)
    obtain ⟨xs, hl, hxs⟩ := list_of (p := fun i => p (i + 1)) n (fun i hi => h (i + 1) (by omega))
    refine ⟨x :: xs, by simp [hl], fun i hi => ?_⟩
    cases i with
    | zero => exact hx
    | succ i => exact hxs i (by simpa using hi)
def okW (W : World) (b : Nat) : Prop := b < W.heap.size
/-- A value that can be read as data. -/
theorem opens : ∀ (T : Ty), solid T = true →
    (∀ (t : TypeId) (n : Nat) (cs : List Value) (x : DataW H × List MemPlace), (tk P T).1 t = true → DataW.trod enc P W 0 sp hd n t cs = some x → ∃ a, VDen (okW W) W T a cs ∧ wf T a) ∧
    (∀ (fs : List Field) (off n : Nat) (cs : List Value), (tk P T).2 fs off = true → (∀ f ∈ fs, ∃ y, DataW.trod enc P W 0 sp hd n f.type ((cs.drop f.offset).take (P.cellsOf f.type)) = some y) → cs.length = off + T.sz → ∃ a, VDen (okW W) W T a (cs.drop off) ∧ wf T a) := by
  -- the last field
  have last : ∀ (T : Ty) (me : TypeId → Bool), (∀ t, me t = true → infoB P T t = true) →
      (∀ (t : TypeId) (n : Nat) (cs : List Value) (x : DataW H × List MemPlace), me t = true → DataW.trod enc P W 0 sp hd n t cs = some x → ∃ a, VDen (okW W) W T a cs ∧ wf T a) →
      ∀ (g : Field) (off n : Nat) (cs : List Value), (Nat.beq g.offset off && me g.type) = true → (∃ y, DataW.trod enc P W 0 sp hd n g.type ((cs.drop g.offset).take (P.cellsOf g.type)) = some y) → cs.length = off + T.sz → ∃ a, VDen (okW W) W T a (cs.drop off) ∧ wf T a := by
    intro T me hinf hme g off n cs h hy hl
    simp only [Bool.and_eq_true] at h
    obtain ⟨h1, h2⟩ := h
    have h1 := Nat.eq_of_beq_eq_true h1
    obtain ⟨y, hy⟩ := hy
    rw [h1, cells_of (hinf _ h2), List.take_of_length_le (by simp; omega)] at hy
    exact hme _ _ _ _ h2 hy
  intro T
  induction T with
  | int k =>
    intro _
    have me : ∀ (t : TypeId) (n : Nat) (cs : List Value) (x : DataW H × List MemPlace), (tk P (.int k)).1 t = true → DataW.trod enc P W 0 sp hd n t cs = some x → ∃ a, VDen (okW W) W (.int k) a cs ∧ wf (.int k) a := by
      intro t n cs x h hx
      simp only [tk, Bool.and_eq_true] at h
      obtain ⟨_, h⟩ := h
      split at h <;> first | cases h | skip
      rename_i k' hu
      have h := kc_inj (Nat.eq_of_beq_eq_true h)
      subst h
      obtain ⟨a, rfl, _, hw⟩ := DataW.trod_int hu hx
      exact ⟨a, rfl, hw⟩
    refine ⟨me, fun fs off n cs h hf hl => ?_⟩
    simp only [tk] at h
    split at h <;> first | cases h | skip
    exact last (.int k) (tk P (.int k)).1 (fun t ht => tyOk_info (T := (.int k)) ht) me _ off n cs h (hf _ (by simp)) hl
  | bool =>
    intro _
    have me : ∀ (t : TypeId) (n : Nat) (cs : List Value) (x : DataW H × List MemPlace), (tk P .bool).1 t = true → DataW.trod enc P W 0 sp hd n t cs = some x → ∃ a, VDen (okW W) W .bool a cs ∧ wf .bool a := by
      intro t n cs x h hx
      simp only [tk, Bool.and_eq_true] at h
      obtain ⟨_, h⟩ := h
      split at h <;> first | cases h | skip
      rename_i hu
      obtain ⟨a, rfl, _⟩ := DataW.trod_bool hu hx
      exact ⟨a, rfl, trivial⟩
    refine ⟨me, fun fs off n cs h hf hl => ?_⟩
    simp only [tk] at h
    split at h <;> first | cases h | skip
    exact last .bool (tk P .bool).1 (fun t ht => tyOk_info (T := .bool) ht) me _ off n cs h (hf _ (by simp)) hl
  | str =>
    intro _
    have me : ∀ (t : TypeId) (n : Nat) (cs : List Value) (x : DataW H × List MemPlace), (tk P .str).1 t = true → DataW.trod enc P W 0 sp hd n t cs = some x → ∃ a, VDen (okW W) W .str a cs ∧ wf .str a := by
      intro t n cs x h hx
      simp only [tk, Bool.and_eq_true] at h
      obtain ⟨_, h⟩ := h
      split at h <;> first | cases h | skip
      rename_i hu
      obtain ⟨a, rfl, _, hw⟩ := DataW.trod_string hu hx
      exact ⟨a, rfl, hw⟩
    refine ⟨me, fun fs off n cs h hf hl => ?_⟩
    simp only [tk] at h
    split at h <;> first | cases h | skip
    exact last .str (tk P .str).1 (fun t ht => tyOk_info (T := .str) ht) me _ off n cs h (hf _ (by simp)) hl
  | unit =>
    intro _
    refine ⟨fun t n cs x h hx => ?_, fun fs off n cs h hf hl => ⟨(), by rw [List.drop_of_length_le (by rw [hl]; exact Nat.le_refl _)]; rfl, trivial⟩⟩
    simp only [tk, Bool.and_eq_true] at h
    obtain ⟨hi, h⟩ := h
    split at h <;> first | cases h | skip
    rename_i fs hu
    obtain ⟨xs, m, _, _, hl, _, _⟩ := DataW.trod_struct hu hx
    rw [cells_of hi] at hl
    exact ⟨(), List.eq_nil_of_length_eq_zero hl, trivial⟩
  | sl e ih =>
    intro hs
    simp only [solid, Bool.and_eq_true] at hs
    have hpos : 0 < e.sz := by simpa [Nat.blt_eq] using hs.1
    obtain ⟨ihe, _⟩ := ih hs.2
    have me : ∀ (t : TypeId) (n : Nat) (cs : List Value) (x : DataW H × List MemPlace), (tk P (.sl e)).1 t = true → DataW.trod enc P W 0 sp hd n t cs = some x → ∃ a, VDen (okW W) W (.sl e) a cs ∧ wf (.sl e) a := by
      intro t n cs x h hx
      simp only [tk, Bool.and_eq_true] at h
      obtain ⟨_, h⟩ := h
      split at h <;> first | cases h | skip
      rename_i u hu
      have hce : P.cellsOf u = e.sz := cells_of (tyOk_info (T := e) h)
      rcases Go.Deep.open_slice hu hx with ⟨rfl, _⟩ | ⟨ad, len, cap, m, n', D, Pl, rfl, hb, hl, hm, hmm, _, hel⟩
      · exact ⟨[], ⟨none, 0, rfl, ⟨Nat.le_refl _, fun _ => rfl⟩, fun i hi => by cases hi⟩, by simp [maxLen], by simp⟩
      · have hlm : len ≤ m := by rw [hmm]; split <;> omega
        obtain ⟨xs, hxl, hxs⟩ := list_of (p := fun i y => ∃ c, W.cells? 0 (ad.add (i * P.cellsOf u)) (P.cellsOf u) = some c ∧ VDen (okW W) W e y c ∧ wf e y) len (fun i hi => by
          obtain ⟨c, h1, h2⟩ := hel i (by omega)
          obtain ⟨y, h3, h4⟩ := ihe u n' c _ h h2
          exact ⟨y, c, h1, h3, h4⟩)
        refine ⟨xs, ⟨some ad, cap, by rw [hxl], ⟨by rw [hxl]; omega, fun h => by cases h⟩, fun i hi => ?_⟩, by rw [hxl]; omega, fun y hy => ?_⟩
        · obtain ⟨c, h1, h2, _⟩ := hxs i hi
          obtain ⟨_, hcl, hcell⟩ := World.cells?_some h1
          rw [hce] at hcl hcell
          have hc : ∀ j v, c[j]? = some v → W.cell? (ad.add (i * e.sz + j)) = some v := fun j v hj => by
            have hjl : j < e.sz := by
              rcases Nat.lt_or_ge j c.length with h | h
              · omega
              · rw [List.getElem?_eq_none h] at hj; cases hj
            have := hcell j hjl
            rw [Go.Deep.add_add] at this
            rw [this, hj]
          refine ⟨ad, c, rfl, h2, hc, ?_⟩
          have h0 : c[0]? = some (c[0]'(by omega)) := List.getElem?_eq_getElem _
          have := cell_lt (hc 0 _ h0)
          rwa [add_block] at this
        · obtain ⟨i, hi, rfl⟩ := List.mem_iff_getElem.1 hy
          obtain ⟨_, _, _, h⟩ := hxs i hi
          exact h
    refine ⟨me, fun fs off n cs h hf hl => ?_⟩
    simp only [tk] at h
    split at h <;> first | cases h | skip
    exact last (.sl e) (tk P (.sl e)).1 (fun t ht => tyOk_info (T := (.sl e)) ht) me _ off n cs h (hf _ (by simp)) hl
  | pair a b iha ihb =>
    intro hs
    simp only [solid, Bool.and_eq_true] at hs
    obtain ⟨a1, a2⟩ := iha hs.1
    obtain ⟨b1, b2⟩ := ihb hs.2
    have me : ∀ (t : TypeId) (n : Nat) (cs : List Value) (x : DataW H × List MemPlace), (tk P (.pair a b)).1 t = true → DataW.trod enc P W 0 sp hd n t cs = some x → ∃ y, VDen (okW W) W (.pair a b) y cs ∧ wf (.pair a b) y := by
      intro t n cs x h hx
      simp only [tk, Bool.and_eq_true] at h
      obtain ⟨hi, h⟩ := h
      split at h <;> first | cases h | skip
      rename_i fs hu
      split at h <;> first | cases h | skip
      rename_i f rest hfs
      simp only [Bool.and_eq_true] at h
      obtain ⟨⟨h0, hA⟩, hB⟩ := h
      have h0 := Nat.eq_of_beq_eq_true h0
      obtain ⟨xs, m, _, _, hl, hlen, hf⟩ := DataW.trod_struct hu hx
      have hl : cs.length = a.sz + b.sz := by rw [hl, cells_of hi]; rfl
      have all : ∀ g ∈ f :: rest, ∃ y, DataW.trod enc P W 0 sp hd m g.type ((cs.drop g.offset).take (P.cellsOf g.type)) = some y := fun g hg => by
        rw [← hfs] at hg
        obtain ⟨i, hi, he⟩ := List.getElem_of_mem hg
        have hi' : i < fs.size := by simpa using hi
        have := hf i g (by rw [Array.getElem?_eq_getElem hi', ← he]; simp)
        rw [this]
        exact ⟨xs[i]'(by omega), List.getElem?_eq_getElem _⟩
      obtain ⟨y, hy⟩ := all f (by simp)
      rw [h0, List.drop_zero, cells_of (tyOk_info (T := a) hA)] at hy
      obtain ⟨p, hp, wp⟩ := a1 _ _ _ _ hA hy
      obtain ⟨q, hq, wq⟩ := b2 rest a.sz m cs hB (fun g hg => all g (List.mem_cons_of_mem _ hg)) hl
      exact ⟨(p, q), ⟨_, _, (List.take_append_drop a.sz cs).symm, hp, hq⟩, wp, wq⟩
    refine ⟨me, fun fs off n cs h hf hl => ?_⟩
    simp only [tk] at h
    split at h <;> first | cases h | skip
    · exact last (.pair a b) (tk P (.pair a b)).1 (fun t ht => tyOk_info (T := (.pair a b)) ht) me _ off n cs h (hf _ (by simp)) hl
    · rename_i g g2 rest
      simp only [Bool.and_eq_true] at h
      obtain ⟨⟨h0, hA⟩, hB⟩ := h
      have h0 := Nat.eq_of_beq_eq_true h0
      have hl' : cs.length = off + (a.sz + b.sz) := hl
      obtain ⟨y, hy⟩ := hf g (by simp)
      rw [h0, cells_of (tyOk_info (T := a) hA)] at hy
      obtain ⟨p, hp, wp⟩ := a1 _ _ _ _ hA hy
      obtain ⟨q, hq, wq⟩ := b2 (g2 :: rest) (off + a.sz) n cs hB (fun g hg => hf g (List.mem_cons_of_mem _ hg)) (by omega)
      refine ⟨(p, q), ⟨_, _, ?_, hp, hq⟩, wp, wq⟩
      rw [← List.drop_drop]
      exact (List.take_append_drop a.sz (cs.drop off)).symm
/-- An argument. -/
theorem arg_opens {T : Ty} {t : TypeId} (hs : solid T = true) (ht : tyOk P T t = true) {v : Value} {d : DataW H} {ps : List MemPlace} (h : DataW.Trod enc P W 0 sp hd t v d ps) {r : _} {base : Nat} (hw : Value.okWide P W r base t v) : ∃ a, PDen (fun _ => none) (okW W) W (.val T a) v ∧ wf T a := by
  obtain ⟨n, h⟩ := h
  obtain ⟨a, h1, h2⟩ := (opens (P := P) (H := H) (enc := enc) (W := W) (sp := sp) (hd := hd) T hs).1 t n _ _ ht h
  refine ⟨a, ⟨_, h1, ?_⟩, h2⟩
  unfold tyOk at ht
  cases T with
  | pair a b =>
    simp only [tk, Bool.and_eq_true] at ht
    obtain ⟨_, ht⟩ := ht
    split at ht <;> first | cases ht | skip
    rename_i fs hu
    obtain ⟨cs, rfl, _⟩ := okWide_struct hu hw
    rfl
  | unit =>
    simp only [tk, Bool.and_eq_true] at ht
    obtain ⟨_, ht⟩ := ht
    split at ht <;> first | cases ht | skip
    rename_i fs hu
    obtain ⟨cs, rfl, _⟩ := okWide_struct hu hw
    rfl
  | int k =>
    simp only [tk, Bool.and_eq_true] at ht
    obtain ⟨_, ht⟩ := ht
    split at ht <;> first | cases ht | skip
    rename_i k' hu
    obtain ⟨n, rfl⟩ := okWide_int hu hw
    rfl
  | bool =>
    simp only [tk, Bool.and_eq_true] at ht
    obtain ⟨_, ht⟩ := ht
    split at ht <;> first | cases ht | skip
    rename_i hu
    obtain ⟨n, rfl⟩ := okWide_bool hu hw
    rfl
  | str =>
    simp only [tk, Bool.and_eq_true] at ht
    obtain ⟨_, ht⟩ := ht
    split at ht <;> first | cases ht | skip
    rename_i hu
    obtain ⟨n, rfl⟩ := okWide_string hu hw
    rfl
  | sl e =>
    simp only [tk, Bool.and_eq_true] at ht
    obtain ⟨_, ht⟩ := ht
    split at ht <;> first | cases ht | skip
    rename_i u hu
    obtain ⟨A, l, c, rfl⟩ := okWide_slice hu hw
    rfl
end
end Pm
end
section
/- Without fuel: what the plain reading comes to. -/
namespace Pm
open Go

open Classical in
noncomputable def limN {α : Type} (s : Nat → Option α) : Option α := if h : ∃ n r, s n = some r then some (Classical.choose (Classical.choose_spec h)) else none
theorem limN_some {α : Type} {s : Nat → Option α} {r : α} (h : limN s = some r) : ∃ n, s n = some r := by
  unfold limN at h
  split at h
  · rename_i hx
    injection h with h
    exact ⟨_, by rw [← h]; exact Classical.choose_spec (Classical.choose_spec hx)⟩
  · cases h
theorem limN_of {α : Type} {s : Nat → Option α} (hm : ∀ n m r, n ≤ m → s n = some r → s m = some r) {n : Nat} {r : α} (h : s n = some r) : limN s = some r := by
  have hx : ∃ n r, s n = some r := ⟨n, r, h⟩
  have : ∃ r', limN s = some r' := ⟨_, by unfold limN; rw [dif_pos hx]⟩
  obtain ⟨r', hr⟩ := this
  obtain ⟨m, hm'⟩ := limN_some hr
  have h1 := hm n (max n m) r (Nat.le_max_left _ _) h
  have h2 := hm m (max n m) r' (Nat.le_max_right _ _) hm'
  rw [h1] at h2
  rw [hr, h2]
/-- Code without fuel. -/
noncomputable def evW (C : CallF) : Cd → List S → Hp → Kt → Option R
  | .skip, tm, H, K => K .normal tm H
  | .reg _ ops, tm, H, K => opsK C ops tm H fun tm' H' => K .normal tm' H'
  | .seq a b, tm, H, K => evW C a tm H fun e tm' H' => match e with
    | .normal => evW C b tm' H' K
    | e => K e tm' H'
  | .cond x a b, tm, H, K => match evX tm x with
    | some (.d (.val .bool c)) => if c = true then evW C a tm H K else evW C b tm H K
    | _ => none
  | .block id c, tm, H, K => evW C c tm H fun e tm' H' => match e with
    | .exit i => _root_.cond (Nat.beq i id) (K .normal tm' H') (K (.exit i) tm' H')
    | e => K e tm' H'
  | .loop base keep c, tm, H, K => headK base keep (fun tm H => limN fun n => loopK (fun tm H K => evW C c tm H K) base keep K n tm H) tm H
  | .exit id, tm, H, K => K (.exit id) tm H
  | .ret, tm, H, K => K .ret tm H
/-- A loop without fuel. -/
noncomputable def loopW (C : CallF) (c : Cd) (base : Nat) (keep : List Nat) (K : Kt) (tm : List S) (H : Hp) : Option R := limN fun n => loopK (fun tm H K => evW C c tm H K) base keep K n tm H

theorem headK_mono {base : Nat} {keep : List Nat} {K K' : List S → Hp → Option R} {tm : List S} {H : Hp} {r : R} (hK : ∀ tm H, K tm H = some r → K' tm H = some r) (h : headK base keep K tm H = some r) : headK base keep K' tm H = some r := by
  unfold headK at h ⊢
  cases hb : Nat.ble (base + (gather tm H keep).length) 900000 with
  | true => rw [hb] at h; exact hK _ _ h
  | false => rw [hb] at h; cases h
/-- Growing families. -/
def Grows {α β : Type} (F : Nat → α → β → Option R) : Prop := ∀ i j a b r, i ≤ j → F i a b = some r → F j a b = some r
def GrowsK (F : Nat → Kt) : Prop := ∀ i j e tm H r, i ≤ j → F i e tm H = some r → F j e tm H = some r
def GrowsC (F : Nat → CallF) : Prop := ∀ i j, i ≤ j → Less (F i) (F j)

theorem loopK_mono {bd bd' : List S → Hp → Kt → Option R} {base : Nat} {keep : List Nat} {r : R} (hb : ∀ tm H (K K' : Kt), (∀ e tm H, K e tm H = some r → K' e tm H = some r) → bd tm H K = some r → bd' tm H K' = some r) : ∀ (n n' : Nat), n ≤ n' → ∀ {K K' : Kt} {tm : List S} {H : Hp}, (∀ e tm H, K e tm H = some r → K' e tm H = some r) → loopK bd base keep K n tm H = some r → loopK bd' base keep K' n' tm H = some r
  | 0, _, _, _, _, _, _, _, h => by cases h
  | n + 1, 0, hn, _, _, _, _, _, _ => by omega
  | n + 1, n' + 1, hn, K, K', tm, H, hK, h => by
    simp only [loopK] at h ⊢
    refine hb _ _ _ _ (fun e tm H h => ?_) h
    cases e with
    | normal => exact headK_mono (fun tm H h => loopK_mono hb n n' (by omega) hK h) h
    | exit i => exact hK _ _ _ h
    | ret => exact hK _ _ _ h
theorem evW_mono : ∀ (cd : Cd) {C C' : CallF} (_ : Less C C') {r : R} {tm : List S} {H : Hp} {K K' : Kt}, (∀ e tm H, K e tm H = some r → K' e tm H = some r) → evW C cd tm H K = some r → evW C' cd tm H K' = some r := by
  intro cd
  induction cd with
  | skip => intro C C' hC r tm H K K' hK h; exact hK _ _ _ h
  | reg d os => intro C C' hC r tm H K K' hK h; exact opsK_mono hC (fun tm H h => hK _ _ _ h) h
  | seq a b iha ihb =>
    intro C C' hC r tm H K K' hK h
    refine iha hC (fun e tm H h => ?_) h
    cases e with
    | normal => exact ihb hC hK h
    | exit i => exact hK _ _ _ h
    | ret => exact hK _ _ _ h
  | cond x a b iha ihb =>
    intro C C' hC r tm H K K' hK h
    simp only [evW] at h ⊢
    split at h <;> first | (exfalso; revert h; simp; done) | skip
    rename_i c hc
    cases c <;> simp only [if_true, if_false, Bool.false_eq_true] at h ⊢
    · exact ihb hC hK h
    · exact iha hC hK h
  | block id c ih =>
    intro C C' hC r tm H K K' hK h
    refine ih hC (fun e tm H h => ?_) h
    cases e with
    | normal => exact hK _ _ _ h
    | ret => exact hK _ _ _ h
    | exit i =>
      simp only at h ⊢
      cases hb : Nat.beq i id with
      | true => rw [hb] at h; exact hK _ _ _ h
      | false => rw [hb] at h; exact hK _ _ _ h
  | loop base keep c ih =>
    intro C C' hC r tm H K K' hK h
    refine headK_mono (fun tm H h => ?_) h
    obtain ⟨n, hn⟩ := limN_some h
    have h2 : loopK (fun tm H K => evW C' c tm H K) base keep K' n tm H = some r := loopK_mono (bd := fun tm H K => evW C c tm H K) (fun tm H K K' hK h => ih hC hK h) n n (Nat.le_refl _) hK hn
    exact limN_of (fun n m r' hnm hr => loopK_mono (bd := fun tm H K => evW C' c tm H K) (fun tm H K K' hK h => ih (fun _ _ _ h => h) hK h) n m hnm (fun _ _ _ h => h) hr) h2
  | exit i => intro C C' hC r tm H K K' hK h; exact hK _ _ _ h
  | ret => intro C C' hC r tm H K K' hK h; exact hK _ _ _ h

theorem opK_cont {Cs : Nat → CallF} {C : CallF} (hCs : ∀ i j, i ≤ j → Less (Cs i) (Cs j)) (hC : ∀ f as r, C f as = some r → ∃ i, Cs i f as = some r) {o : Op} {tm : List S} {H : Hp} {Ks : Nat → List S → Hp → Option R} {K : List S → Hp → Option R} (hKs : ∀ i j, i ≤ j → ∀ tm H r, Ks i tm H = some r → Ks j tm H = some r) (hK : ∀ tm H r, K tm H = some r → ∃ i, Ks i tm H = some r) {r : R} (h : opK C o tm H K = some r) : ∃ i, opK (Cs i) o tm H (Ks i) = some r := by
  unfold opK at h
  split at h
  · cases h
  · rename_i ss he
    split at h
    · rename_i nm f rs io hi
      split at h <;> first | cases h | skip
      rename_i c hc
      obtain ⟨y, h1, h2⟩ := Option.bind_eq_some_iff.1 h
      have h3 : ∃ i, callT (Cs i) c.rs c.f c.as = some y := by
        unfold callT at h1 ⊢
        obtain ⟨ds, h4, h5⟩ := Option.bind_eq_some_iff.1 h1
        obtain ⟨i, h6⟩ := hC _ _ _ h4
        exact ⟨i, by rw [h6]; exact h5⟩
      obtain ⟨i, h3⟩ := h3
      cases hf : c.fin y with
      | none => rw [hf] at h2; cases h2
      | some z =>
        rw [hf] at h2
        obtain ⟨j, h4⟩ := hK _ _ _ h2
        refine ⟨max i j, ?_⟩
        unfold opK
        rw [he]
        simp only [hi, hc]
        have h5 : callT (Cs (max i j)) c.rs c.f c.as = some y := by
          unfold callT at h3 ⊢
          obtain ⟨ds, h6, h7⟩ := Option.bind_eq_some_iff.1 h3
          rw [hCs i (max i j) (Nat.le_max_left _ _) _ _ _ h6]; exact h7
        rw [h5]
        simp only [Option.bind_some, hf]
        exact hKs j _ (Nat.le_max_right _ _) _ _ _ h4
    · rename_i hni
      have hn : ∀ nm f rs io, o.i ≠ .call nm f rs io := fun nm f rs io he => hni nm f rs io he
      have ex : ∃ c s H', core H o.i ss = some (c, s, H') ∧ c.p ∧ K (setT tm o.dst s) H' = some r := by
        clear hni
        revert h hn
        generalize o.i = i
        intro h hn
        have fin : ∀ q : Option (Chk × S × Hp), (match q with
          | some (c, s, H') => @ite _ c.p c.dec (K (setT tm o.dst s) H') none
          | none => none) = some r → ∃ c s H', q = some (c, s, H') ∧ c.p ∧ K (setT tm o.dst s) H' = some r := fun q hq => by
          cases q with
          | none => cases hq
          | some q =>
            obtain ⟨c, s, H'⟩ := q
            simp only at hq
            by_cases hp : c.p
            · rw [@if_pos _ c.dec hp] at hq; exact ⟨c, s, H', rfl, hp, hq⟩
            · rw [@if_neg _ c.dec hp] at hq; cases hq
        cases i <;> first | exact absurd rfl (hn _ _ _ _) | exact fin _ h
      obtain ⟨c, s, H', h1, hp, h2⟩ := ex
      obtain ⟨j, h4⟩ := hK _ _ _ h2
      refine ⟨j, ?_⟩
      rw [opK_eq, step1_eq, he]
      simp only [Option.bind_some]
      rw [act_of hn h1 hp]
      exact h4
theorem opsK_cont {Cs : Nat → CallF} {C : CallF} (hCs : ∀ i j, i ≤ j → Less (Cs i) (Cs j)) (hC : ∀ f as r, C f as = some r → ∃ i, Cs i f as = some r) : ∀ {os : List Op} {tm : List S} {H : Hp} {Ks : Nat → List S → Hp → Option R} {K : List S → Hp → Option R} (_ : ∀ i j, i ≤ j → ∀ tm H r, Ks i tm H = some r → Ks j tm H = some r) (_ : ∀ tm H r, K tm H = some r → ∃ i, Ks i tm H = some r) {r : R}, opsK C os tm H K = some r → ∃ i, opsK (Cs i) os tm H (Ks i) = some r
  | [], _, _, _, _, _, hK, _, h => hK _ _ _ h
  | o :: os, tm, H, Ks, K, hKs, hK, r, h => by
    have gr : ∀ i j, i ≤ j → ∀ tm H r, opsK (Cs i) os tm H (Ks i) = some r → opsK (Cs j) os tm H (Ks j) = some r := fun i j hij tm H r h => opsK_mono (hCs i j hij) (fun tm H h => hKs i j hij tm H r h) h
    have one : ∀ tm, opK C o tm H (fun tm' H' => opsK C os tm' H' K) = some r → ∃ i, opK (Cs i) o tm H (fun tm' H' => opsK (Cs i) os tm' H' (Ks i)) = some r := fun tm h => opK_cont hCs hC (Ks := fun i tm' H' => opsK (Cs i) os tm' H' (Ks i)) gr (fun tm H r h => opsK_cont hCs hC hKs hK h) h
    simp only [opsK] at h ⊢
    cases hg : o.grd with
    | none => rw [hg] at h; exact one tm h
    | some g =>
      obtain ⟨j, w⟩ := g
      rw [hg] at h
      simp only at h ⊢
      cases hj : tm[j]? with
      | none => rw [hj] at h; cases h
      | some s => cases s with
        | tup => rw [hj] at h; cases h
        | d d => cases d with
          | val t x => cases t with
            | bool =>
              rw [hj] at h
              simp only at h ⊢
              cases x <;> cases w <;> simp only [if_true, if_false, Bool.false_eq_true, cond_true, cond_false] at h ⊢
              · exact one _ h
              · exact opsK_cont hCs hC hKs hK h
              · exact opsK_cont hCs hC hKs hK h
              · exact one _ h
            | _ => rw [hj] at h; cases h
          | skp => rw [hj] at h; exact opsK_cont hCs hC hKs hK h
          | _ => rw [hj] at h; cases h
theorem headK_cont {base : Nat} {keep : List Nat} {Ks : Nat → List S → Hp → Option R} {K : List S → Hp → Option R} {tm : List S} {H : Hp} {r : R} (hK : ∀ tm H, K tm H = some r → ∃ i, Ks i tm H = some r) (h : headK base keep K tm H = some r) : ∃ i, headK base keep (Ks i) tm H = some r := by
  unfold headK at h ⊢
  cases hb : Nat.ble (base + (gather tm H keep).length) 900000 with
  | true => rw [hb] at h; exact hK _ _ h
  | false => rw [hb] at h; cases h
/-- What comes out without fuel comes out with enough fuel. -/
theorem evW_ev {Cs : Nat → CallF} {C : CallF} (hCs : ∀ i j, i ≤ j → Less (Cs i) (Cs j)) (hC : ∀ f as r, C f as = some r → ∃ i, Cs i f as = some r) : ∀ (cd : Cd) {Ks : Nat → Kt} {K : Kt} (_ : ∀ i j, i ≤ j → ∀ e tm H r, Ks i e tm H = some r → Ks j e tm H = some r) (_ : ∀ e tm H r, K e tm H = some r → ∃ i, Ks i e tm H = some r) {tm : List S} {H : Hp} {r : R}, evW C cd tm H K = some r → ∃ i, ev (Cs i) i cd tm H (Ks i) = some r := by
  intro cd
  induction cd with
  | skip => intro Ks K hKs hK tm H r h; exact hK _ _ _ _ h
  | reg d os => intro Ks K hKs hK tm H r h; exact opsK_cont hCs hC (Ks := fun i tm H => Ks i .normal tm H) (fun i j hij tm H r h => hKs i j hij _ _ _ _ h) (fun tm H r h => hK _ _ _ _ h) h
  | seq a b iha ihb =>
    intro Ks K hKs hK tm H r h
    refine iha (Ks := fun i e tm' H' => match e with
      | .normal => ev (Cs i) i b tm' H' (Ks i)
      | e => Ks i e tm' H') (fun i j hij e tm H r h => ?_) (fun e tm H r h => ?_) h
    · cases e with
      | normal => exact ev_mono (hCs i j hij) hij b (fun e tm H h => hKs i j hij _ _ _ _ h) h
      | exit n => exact hKs i j hij _ _ _ _ h
      | ret => exact hKs i j hij _ _ _ _ h
    · cases e with
      | normal => exact ihb hKs hK h
      | exit n => exact hK _ _ _ _ h
      | ret => exact hK _ _ _ _ h
  | cond x a b iha ihb =>
    intro Ks K hKs hK tm H r h
    simp only [evW] at h
    simp only [ev]
    split at h <;> first | (exfalso; revert h; simp; done) | skip
    rename_i c hc
    simp only [hc]
    cases c <;> simp only [if_true, if_false, Bool.false_eq_true] at h ⊢
    · exact ihb hKs hK h
    · exact iha hKs hK h
  | block id c ih =>
    intro Ks K hKs hK tm H r h
    refine ih (Ks := fun i e tm' H' => match e with
      | .exit n => _root_.cond (Nat.beq n id) (Ks i .normal tm' H') (Ks i (.exit n) tm' H')
      | e => Ks i e tm' H') (fun i j hij e tm H r h => ?_) (fun e tm H r h => ?_) h
    · cases e with
      | normal => exact hKs i j hij _ _ _ _ h
      | ret => exact hKs i j hij _ _ _ _ h
      | exit n =>
        simp only at h ⊢
        cases hb : Nat.beq n id with
        | true => rw [hb] at h; exact hKs i j hij _ _ _ _ h
        | false => rw [hb] at h; exact hKs i j hij _ _ _ _ h
    · cases e with
      | normal => exact hK _ _ _ _ h
      | ret => exact hK _ _ _ _ h
      | exit n =>
        simp only at h ⊢
        cases hb : Nat.beq n id with
        | true => rw [hb] at h; exact hK _ _ _ _ h
        | false => rw [hb] at h; exact hK _ _ _ _ h
  | loop base keep c ih =>
    intro Ks K hKs hK tm H r h
    have gr : ∀ i j, i ≤ j → ∀ tm H r, loopK (fun tm H K => ev (Cs i) i c tm H K) base keep (Ks i) i tm H = some r → loopK (fun tm H K => ev (Cs j) j c tm H K) base keep (Ks j) j tm H = some r := fun i j hij tm H r h =>
      loopK_mono (bd := fun tm H K => ev (Cs i) i c tm H K) (fun tm H K K' hK h => ev_mono (hCs i j hij) hij c hK h) i j hij (fun e tm H h => hKs i j hij _ _ _ _ h) h
    have lp : ∀ (n : Nat) (tm : List S) (H : Hp) (r : R), loopK (fun tm H K => evW C c tm H K) base keep K n tm H = some r → ∃ i, loopK (fun tm H K => ev (Cs i) i c tm H K) base keep (Ks i) i tm H = some r := by
      intro n
      induction n with
      | zero => intro tm H r h; cases h
      | succ n ihn =>
        intro tm H r h
        simp only [loopK] at h
        obtain ⟨i, hi⟩ := ih (Ks := fun i e tm' H' => match e with
          | .normal => headK base keep (loopK (fun tm H K => ev (Cs i) i c tm H K) base keep (Ks i) i) tm' H'
          | e => Ks i e tm' H') (fun i j hij e tm H r h => by
            cases e with
            | normal => exact headK_mono (fun tm H h => gr i j hij tm H r h) h
            | exit n => exact hKs i j hij _ _ _ _ h
            | ret => exact hKs i j hij _ _ _ _ h) (fun e tm H r h => by
            cases e with
            | normal => exact headK_cont (fun tm H h => ihn tm H r h) h
            | exit n => exact hK _ _ _ _ h
            | ret => exact hK _ _ _ _ h) h
        refine ⟨i + 1, ?_⟩
        simp only [loopK]
        refine ev_mono (hCs i (i + 1) (by omega)) (by omega) c (fun e tm H h => ?_) hi
        cases e with
        | normal => exact headK_mono (fun tm H h => loopK_mono (bd := fun tm H K => ev (Cs i) i c tm H K) (fun tm H K K' hK h => ev_mono (hCs i (i + 1) (by omega)) (by omega) c hK h) i i (Nat.le_refl _) (fun e tm H h => hKs i (i + 1) (by omega) _ _ _ _ h) h) h
        | exit n => exact hKs i (i + 1) (by omega) _ _ _ _ h
        | ret => exact hKs i (i + 1) (by omega) _ _ _ _ h
    simp only [evW] at h
    obtain ⟨i, hi⟩ := headK_cont (Ks := fun i => loopK (fun tm H K => ev (Cs i) i c tm H K) base keep (Ks i) i) (fun tm H h => by obtain ⟨n, hn⟩ := limN_some h; exact lp n tm H r hn) h
    exact ⟨i, hi⟩
  | exit i => intro Ks K hKs hK tm H r h; exact hK _ _ _ _ h
  | ret => intro Ks K hKs hK tm H r h; exact hK _ _ _ _ h
/-- A loop's equation. -/
theorem loopW_of {C : CallF} {c : Cd} {base : Nat} {keep : List Nat} {K : Kt} {tm : List S} {H : Hp} {r : R} (h : evW C c tm H (fun e tm' H' => match e with
      | .normal => headK base keep (loopW C c base keep K) tm' H'
      | e => K e tm' H') = some r) : loopW C c base keep K tm H = some r := by
  have mon : ∀ n m r', n ≤ m → ∀ tm H, loopK (fun tm H K => evW C c tm H K) base keep K n tm H = some r' → loopK (fun tm H K => evW C c tm H K) base keep K m tm H = some r' := fun n m r' hnm tm H h =>
    loopK_mono (bd := fun tm H K => evW C c tm H K) (fun tm H K K' hK h => evW_mono c (fun _ _ _ h => h) hK h) n m hnm (fun _ _ _ h => h) h
  obtain ⟨n, hn⟩ := cont c (fun i j hij e tm H r h => by
    cases e with
    | normal => exact headK_mono (fun tm H h => mon i j r hij tm H h) h
    | exit n => exact h
    | ret => exact h) (Ks := fun n e tm' H' => match e with
      | .normal => headK base keep (loopK (fun tm H K => evW C c tm H K) base keep K n) tm' H'
      | e => K e tm' H') (fun e tm H r h => by
    cases e with
    | normal => exact headK_cont (fun tm H h => limN_some h) h
    | exit n => exact ⟨0, h⟩
    | ret => exact ⟨0, h⟩) h
  exact limN_of (fun n m r' hnm h => mon n m r' hnm tm H h) (n := n + 1) (by simp only [loopK]; exact hn)
where
  cont {C : CallF} : ∀ (cd : Cd) {Ks : Nat → Kt} {K : Kt} (_ : ∀ i j, i ≤ j → ∀ e tm H r, Ks i e tm H = some r → Ks j e tm H = some r) (_ : ∀ e tm H r, K e tm H = some r → ∃ i, Ks i e tm H = some r) {tm : List S} {H : Hp} {r : R}, evW C cd tm H K = some r → ∃ i, evW C cd tm H (Ks i) = some r := by
    intro cd
    have hC : Less C C := fun _ _ _ h => h
    induction cd with
    | skip => intro Ks K hKs hK tm H r h; exact hK _ _ _ _ h
    | reg d os => intro Ks K hKs hK tm H r h; exact opsK_cont (Cs := fun _ => C) (fun _ _ _ => hC) (fun f as r h => ⟨0, h⟩) (Ks := fun i tm H => Ks i .normal tm H) (fun i j hij tm H r h => hKs i j hij _ _ _ _ h) (fun tm H r h => hK _ _ _ _ h) h
    | seq a b iha ihb =>
      intro Ks K hKs hK tm H r h
      refine iha (Ks := fun i e tm' H' => match e with
        | .normal => evW C b tm' H' (Ks i)
        | e => Ks i e tm' H') (fun i j hij e tm H r h => ?_) (fun e tm H r h => ?_) h
      · cases e with
        | normal => exact evW_mono b hC (fun e tm H h => hKs i j hij _ _ _ _ h) h
        | exit n => exact hKs i j hij _ _ _ _ h
        | ret => exact hKs i j hij _ _ _ _ h
      · cases e with
        | normal => exact ihb hKs hK h
        | exit n => exact hK _ _ _ _ h
        | ret => exact hK _ _ _ _ h
    | cond x a b iha ihb =>
      intro Ks K hKs hK tm H r h
      simp only [evW] at h ⊢
      split at h <;> first | (exfalso; revert h; simp; done) | skip
      rename_i c hc
      cases c <;> simp only [if_true, if_false, Bool.false_eq_true] at h ⊢
      · exact ihb hKs hK h
      · exact iha hKs hK h
    | block id c ih =>
      intro Ks K hKs hK tm H r h
      refine ih (Ks := fun i e tm' H' => match e with
        | .exit n => _root_.cond (Nat.beq n id) (Ks i .normal tm' H') (Ks i (.exit n) tm' H')
        | e => Ks i e tm' H') (fun i j hij e tm H r h => ?_) (fun e tm H r h => ?_) h
      · cases e with
        | normal => exact hKs i j hij _ _ _ _ h
        | ret => exact hKs i j hij _ _ _ _ h
        | exit n =>
          simp only at h ⊢
          cases hb : Nat.beq n id with
          | true => rw [hb] at h; exact hKs i j hij _ _ _ _ h
          | false => rw [hb] at h; exact hKs i j hij _ _ _ _ h
      · cases e with
        | normal => exact hK _ _ _ _ h
        | ret => exact hK _ _ _ _ h
        | exit n =>
          simp only at h ⊢
          cases hb : Nat.beq n id with
          | true => rw [hb] at h; exact hK _ _ _ _ h
          | false => rw [hb] at h; exact hK _ _ _ _ h
    | loop base keep c ih =>
      intro Ks K hKs hK tm H r h
      have gr : ∀ n i j, i ≤ j → ∀ tm H r, loopK (fun tm H K => evW C c tm H K) base keep (Ks i) n tm H = some r → loopK (fun tm H K => evW C c tm H K) base keep (Ks j) n tm H = some r := fun n i j hij tm H r h =>
        loopK_mono (bd := fun tm H K => evW C c tm H K) (fun tm H K K' hK h => evW_mono c hC hK h) n n (Nat.le_refl _) (fun e tm H h => hKs i j hij _ _ _ _ h) h
      have lp : ∀ (n : Nat) (tm : List S) (H : Hp) (r : R), loopK (fun tm H K => evW C c tm H K) base keep K n tm H = some r → ∃ i, loopK (fun tm H K => evW C c tm H K) base keep (Ks i) n tm H = some r := by
        intro n
        induction n with
        | zero => intro tm H r h; cases h
        | succ n ihn =>
          intro tm H r h
          simp only [loopK] at h ⊢
          exact ih (Ks := fun i e tm' H' => match e with
            | .normal => headK base keep (loopK (fun tm H K => evW C c tm H K) base keep (Ks i) n) tm' H'
            | e => Ks i e tm' H') (fun i j hij e tm H r h => by
              cases e with
              | normal => exact headK_mono (fun tm H h => gr n i j hij tm H r h) h
              | exit n => exact hKs i j hij _ _ _ _ h
              | ret => exact hKs i j hij _ _ _ _ h) (fun e tm H r h => by
              cases e with
              | normal => exact headK_cont (fun tm H h => ihn tm H r h) h
              | exit n => exact hK _ _ _ _ h
              | ret => exact hK _ _ _ _ h) h
      simp only [evW] at h ⊢
      obtain ⟨i, hi⟩ := headK_cont (Ks := fun i => fun tm H => limN fun n => loopK (fun tm H K => evW C c tm H K) base keep (Ks i) n tm H) (fun tm H h => by
        obtain ⟨n, hn⟩ := limN_some h
        obtain ⟨i, hi⟩ := lp n tm H r hn
        exact ⟨i, limN_of (fun n m r' hnm h => loopK_mono (bd := fun tm H K => evW C c tm H K) (fun tm H K K' hK h => evW_mono c hC hK h) n m hnm (fun _ _ _ h => h) h) hi⟩) h
      exact ⟨i, hi⟩
    | exit i => intro Ks K hKs hK tm H r h; exact hK _ _ _ _ h
    | ret => intro Ks K hKs hK tm H r h; exact hK _ _ _ _ h

/-- A function without fuel. -/
noncomputable def runW (C : CallF) (f : Fn) (as : List D) : Option R :=
  cond (Nat.beq as.length f.np) (evW C f.body (inS as ++ List.replicate (f.nt - f.np) (.d .undef)) (inH as) fun e tm H => match e with
    | .exit _ => none
    | _ => leave f as tm H) none
noncomputable def limC (G : Nat → Option Fn) : CallF := fun g as => limN fun k => evF G k g as
theorem limC_some {G : Nat → Option Fn} {g : Nat} {as : List D} {r : R} (h : limC G g as = some r) : ∃ k, evF G k g as = some r := limN_some h
theorem limC_of {G : Nat → Option Fn} {g k : Nat} {as : List D} {r : R} (h : evF G k g as = some r) : limC G g as = some r := limN_of (fun n m r hnm h => evF_mono hnm g as r h) h
theorem runW_run {G : Nat → Option Fn} {f : Fn} {as : List D} {r : R} (h : runW (limC G) f as = some r) : ∃ k, runF (evF G k) k f as = some r := by
  unfold runW at h
  unfold runF
  cases hb : Nat.beq as.length f.np with
  | false => rw [hb] at h; cases h
  | true =>
    rw [hb] at h
    exact evW_ev (Cs := evF G) (fun i j hij => evF_mono hij) (fun f as r h => limC_some h) f.body (Ks := fun _ e tm H => match e with
      | .exit _ => none
      | _ => leave f as tm H) (fun _ _ _ _ _ _ _ h => h) (fun _ _ _ _ h => ⟨0, h⟩) h
/-- A function is what its code comes to. -/
theorem limC_run {G : Nat → Option Fn} {g : Nat} {f : Fn} {as : List D} {r : R} (hg : G g = some f) (hs : f.sp = none) (h : runW (limC G) f as = some r) : limC G g as = some r := by
  obtain ⟨k, hk⟩ := runW_run h
  refine limC_of (k := k + 1) ?_
  simp only [evF, hg, hs]
  exact hk
theorem limC_sp {G : Nat → Option Fn} {g : Nat} {f : Fn} {e : Ty} {xs : List e.I} {r : R} (hg : G g = some f) (hs : f.sp = some e) (h : runW (limC G) f [.nn e xs] = some r) : limC G g [.val (.sl e) xs] = some r := by
  obtain ⟨k, hk⟩ := runW_run h
  refine limC_of (k := k + 1) ?_
  simp only [evF, hg, hs, castT_self]
  exact hk
end Pm
end
section
/- Loops by their place in the code. -/
namespace Pm
open Go

def codeAt : Cd → List Nat → Cd
  | c, [] => c
  | .seq a _, 0 :: p => codeAt a p
  | .seq _ b, _ :: p => codeAt b p
  | .cond _ a _, 0 :: p => codeAt a p
  | .cond _ _ b, _ :: p => codeAt b p
  | .block _ c, _ :: p => codeAt c p
  | .loop _ _ c, _ :: p => codeAt c p
  | c, _ => c
noncomputable def contAt (C : CallF) : Cd → List Nat → Kt → Kt
  | _, [], K => K
  | .seq a b, 0 :: p, K => contAt C a p fun e tm H => match e with
    | .normal => evW C b tm H K
    | e => K e tm H
  | .seq _ b, _ :: p, K => contAt C b p K
  | .cond _ a _, 0 :: p, K => contAt C a p K
  | .cond _ _ b, _ :: p, K => contAt C b p K
  | .block id c, _ :: p, K => contAt C c p fun e tm H => match e with
    | .exit i => _root_.cond (Nat.beq i id) (K .normal tm H) (K (.exit i) tm H)
    | e => K e tm H
  | .loop base keep c, _ :: p, K => contAt C c p fun e tm H => match e with
    | .normal => headK base keep (loopW C c base keep K) tm H
    | e => K e tm H
  | _, _, K => K
def endK (f : Fn) (as : List D) : Kt := fun e tm H => match e with
  | .exit _ => none
  | _ => leave f as tm H
/-- The loop at a place. -/
noncomputable def lpAt (C : CallF) (f : Fn) (as : List D) (p : List Nat) (tm : List S) (H : Hp) : Option R :=
  match codeAt f.body p with
  | .loop base keep c => loopW C c base keep (contAt C f.body p (endK f as)) tm H
  | _ => none
/-- A round of it. -/
noncomputable def bodyAt (C : CallF) (f : Fn) (as : List D) (p : List Nat) (tm : List S) (H : Hp) : Option R :=
  match codeAt f.body p with
  | .loop base keep c => evW C c tm H fun e tm' H' => match e with
    | .normal => headK base keep (loopW C c base keep (contAt C f.body p (endK f as))) tm' H'
    | e => contAt C f.body p (endK f as) e tm' H'
  | _ => none
theorem lpAt_of {C : CallF} {f : Fn} {as : List D} {p : List Nat} {tm : List S} {H : Hp} {r : R} (h : bodyAt C f as p tm H = some r) : lpAt C f as p tm H = some r := by
  unfold bodyAt at h
  unfold lpAt
  split
  · rename_i base keep c hc
    rw [hc] at h
    exact loopW_of h
  · rename_i hne
    split at h
    · rename_i base keep c hc; exact absurd hc (hne base keep c)
    · cases h
abbrev wr (k : IntKind) (x : Int) : Int := k.wrap x
/-- A call's result. -/
theorem callT_of {C : CallF} {rs : List RT} {f : Nat} {as ds : List D} {r : RI rs} (h : C f as = some ds) (hd : decs rs ds = some r) : callT C rs f as = some r := by
  unfold callT; rw [h]; exact hd
end Pm
end
section
/- Running with some calls known beforehand. -/
namespace Pm
open Go

theorem ev_evW {C : CallF} {k : Nat} : ∀ (cd : Cd) {r : R} {tm : List S} {H : Hp} {K K' : Kt}, (∀ e tm H, K e tm H = some r → K' e tm H = some r) → ev C k cd tm H K = some r → evW C cd tm H K' = some r := by
  intro cd
  have hC : Less C C := fun _ _ _ h => h
  induction cd with
  | skip => intro r tm H K K' hK h; exact hK _ _ _ h
  | reg d os => intro r tm H K K' hK h; exact opsK_mono hC (fun tm H h => hK _ _ _ h) h
  | seq a b iha ihb =>
    intro r tm H K K' hK h
    refine iha (fun e tm H h => ?_) h
    cases e with
    | normal => exact ihb hK h
    | exit i => exact hK _ _ _ h
    | ret => exact hK _ _ _ h
  | cond x a b iha ihb =>
    intro r tm H K K' hK h
    simp only [ev] at h
    simp only [evW]
    split at h <;> first | (exfalso; revert h; simp; done) | skip
    rename_i c hc
    simp only [hc]
    cases c <;> simp only [if_true, if_false, Bool.false_eq_true] at h ⊢
    · exact ihb hK h
    · exact iha hK h
  | block id c ih =>
    intro r tm H K K' hK h
    refine ih (fun e tm H h => ?_) h
    cases e with
    | normal => exact hK _ _ _ h
    | ret => exact hK _ _ _ h
    | exit i =>
      simp only at h ⊢
      cases hb : Nat.beq i id with
      | true => rw [hb] at h; exact hK _ _ _ h
      | false => rw [hb] at h; exact hK _ _ _ h
  | loop base keep c ih =>
    intro r tm H K K' hK h
    refine headK_mono (fun tm H h => ?_) h
    have h2 : loopK (fun tm H K => evW C c tm H K) base keep K' k tm H = some r := loopK_mono (bd := fun tm H K => ev C k c tm H K) (fun tm H K K' hK h => ih hK h) k k (Nat.le_refl _) hK h
    exact limN_of (fun n m r' hnm hr => loopK_mono (bd := fun tm H K => evW C c tm H K) (fun tm H K K' hK h => evW_mono c hC hK h) n m hnm (fun _ _ _ h => h) hr) h2
  | exit i => intro r tm H K K' hK h; exact hK _ _ _ h
  | ret => intro r tm H K K' hK h; exact hK _ _ _ h
theorem runF_runW {C C' : CallF} (hC : Less C C') {k : Nat} {f : Fn} {as : List D} {r : R} (h : runF C k f as = some r) : runW C' f as = some r := by
  unfold runF at h
  unfold runW
  cases hb : Nat.beq as.length f.np with
  | false => rw [hb] at h; cases h
  | true =>
    rw [hb] at h
    exact evW_mono f.body hC (fun _ _ _ h => h) (ev_evW f.body (fun _ _ _ h => h) h)
/-- The same reading, with calls that are known. -/
def evO (G : Nat → Option Fn) (O : CallF) : Nat → CallF
  | 0, _, _ => none
  | k + 1, f, as => match O f as with
    | some r => some r
    | none => match G f with
      | some fn => match fn.sp with
        | none => runF (evO G O k) k fn as
        | some e => match as with
          | [.val t x] => match castT t (.sl e) x with
            | some xs => runF (evO G O k) k fn [.nn e xs]
            | none => none
          | _ => none
      | none => none
theorem evO_lim {G : Nat → Option Fn} {O : CallF} (hO : Less O (limC G)) : ∀ k, Less (evO G O k) (limC G)
  | 0 => fun _ _ _ h => by cases h
  | k + 1 => fun f as r h => by
    simp only [evO] at h
    split at h
    · rename_i r' ho; injection h with h; subst h; exact hO _ _ _ ho
    · split at h
      · rename_i fn hf
        split at h
        · rename_i hs; exact limC_run hf hs (runF_runW (evO_lim hO k) h)
        · rename_i e hs
          split at h
          · split at h
            · rename_i xs hc
              obtain ⟨he, hx⟩ := castT_some hc
              subst he
              subst hx
              exact limC_sp hf hs (runF_runW (evO_lim hO k) h)
            · cases h
          · cases h
      · cases h
end Pm
end
