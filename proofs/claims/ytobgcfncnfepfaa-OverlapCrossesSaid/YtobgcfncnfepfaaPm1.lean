/- Parts of the proof, joined: Pm13, Pm14, Pm15, Pm16, Pm17, Pm18, Pm19, Pm20, Pm21, Pm22, Pm23. -/
import Derived.Test.YtobgcfncnfepfaaPm0
set_option linter.unusedVariables false
set_option linter.unusedSimpArgs false
section
/- Each operation: what is checked of it, and that the machine does what the plain reading says. -/
namespace Pm
open Go Go.RowKit

def xB (ρ : Nat → Option Nat) : Operand → X → Bool
  | .tmp n, .t m => Nat.beq n m
  | .const v, .int k n => match v with | .int k' n' => Nat.beq (kc k') (kc k) && decide (n' = n) | _ => false
  | .const v, .bool b => match v with | .bool b' => b' == b | _ => false
  | .const v, .str s => match v with | .string s' => s'.data.toList == s.data.toList | _ => false
  | .const v, .nil => match v with | .slice none 0 0 => true | _ => false
  | .func f, .fn g => match ρ f with | some g' => Nat.beq g' g | none => false
  | _, _ => false
def xsB (ρ : Nat → Option Nat) : List Operand → List X → Bool
  | [], [] => true
  | o :: os, x :: xs => xB ρ o x && xsB ρ os xs
  | _, _ => false
def isNilC : Operand → Bool
  | .const v => match v with | .slice none 0 0 => true | _ => false
  | _ => false
/-- A limit on a row's length. -/
def limB (P : Program) (t : TypeId) (lim most : Nat) : Bool :=
  match P.underlying t with
  | some (.slice u) => match P.info? u with
    | some i => Nat.ble (lim * i.bytes) most
    | none => false
  | _ => false
def optL (o : Option Operand) : List Operand := match o with | some x => [x] | none => []
def okI (P : Program) (ρ : Nat → Option Nat) (op : Go.Op) (xs : List X) : In → Bool
  | .mov => match op with
    | .move x => xsB ρ [x] xs
    | .assign x => xsB ρ [x] xs
    | _ => false
  | .own0 _ _ => xs.isEmpty && match op with
    | .move x => isNilC x
    | .assign x => isNilC x
    | _ => false
  | .pick => match op with
    | .pick c a b => xsB ρ [c, a, b] xs
    | _ => false
  | .box _ T => match op with
    | .box t x => tyOk P T t && xsB ρ [x] xs
    | _ => false
  | .alloc _ T => xs.isEmpty && match op with
    | .alloc t => tyOk P T t
    | _ => false
  | .build T qs => match op with
    | .build t ps => tyOk P T t && T.agg && sizedB P t && partsB P T t ps.toList qs && xsB ρ (ps.toList.map (·.2)) xs
    | _ => false
  | .bsl _ e len ix => match op with
    | .buildSlice t n ps => Nat.beq n len && slB P e t && Nat.ble (n * e.sz) 16777216 && (ps.toList.map (·.1) == ix) && xsB ρ (ps.toList.map (·.2)) xs
    | _ => false
  | .load T => match op with
    | .load t x => tyOk P T t && xsB ρ [x] xs
    | _ => false
  | .store T => match op with
    | .store t x y => tyOk P T t && xsB ρ [x, y] xs
    | _ => false
  | .bin b T => match op with
    | .binOp b' t x y _ => decide (b' = b) && (match T with | .int _ => true | _ => eqB P T t) && xsB ρ [x, y] xs
    | _ => false
  | .isNil ng => match op with
    | .binOp b t x y _ => (match b with | .eql => !ng | .neq => ng | _ => false) && (match P.underlying t with | some (.slice _) => true | _ => false) && xsB ρ [x, y] xs
    | _ => false
  | .neg _ => match op with
    | .unOp u _ x => (match u with | .neg => true | _ => false) && xsB ρ [x] xs
    | _ => false
  | .not => match op with
    | .unOp u _ x => (match u with | .not => true | _ => false) && xsB ρ [x] xs
    | _ => false
  | .conv _ k' => match op with
    | .convert s d x => (match P.underlying s with | some (.int _) => true | _ => false) && (match P.underlying d with | some (.int k2) => Nat.beq (kc k2) (kc k') | _ => false) && xsB ρ [x] xs
    | _ => false
  | .mkfn g => match op with
    | .makeFunc (.func f) first caps => first.isEmpty && (match ρ f with | some g' => Nat.beq g' g | none => false) && xsB ρ caps.toList xs
    | _ => false
  | .mksl _ e lim => match op with
    | .makeSlice t l c => slB P e t && limB P t lim 281474976710656 && xsB ρ [l, c] xs
    | _ => false
  | .slice _ _ e lo hi mx => match op with
    | .slice t x l h m => slB P e t && (l.isSome == lo) && (h.isSome == hi) && (m.isSome == mx) && xsB ρ (x :: (optL l ++ (optL h ++ optL m))) xs
    | _ => false
  | .fld T p U => match op with
    | .field t x j => fieldB P T t j p && tyOkF P T t j U && xsB ρ [x] xs
    | _ => false
  | .fadr T p => match op with
    | .fieldAddr t x j => fieldB P T t j p && xsB ρ [x] xs
    | _ => false
  | .iadr e => match op with
    | .indexAddr t x i => slB P e t && xsB ρ [x, i] xs
    | _ => false
  | .ext j => match op with
    | .extract x j' => Nat.beq j' j && xsB ρ [x] xs
    | _ => false
  | .len => match op with
    | .call c => match c.callee with
      | .builtin b => decide (b = .len) && (match c.argTypes[0]? with | some t => (match P.underlying t with | some (.slice _) => true | _ => false) | none => false) && xsB ρ c.args.toList xs
      | _ => false
    | _ => false
  | .cap => match op with
    | .call c => match c.callee with
      | .builtin b => decide (b = .cap) && (match c.argTypes[0]? with | some t => (match P.underlying t with | some (.slice _) => true | _ => false) | none => false) && xsB ρ c.args.toList xs
      | _ => false
    | _ => Nat.beq xs.length 0   -- nothing is told there: it never comes to a value
  | .app _ e lim => match op with
    | .call c => match c.callee, c.argTypes.toList with
      | .builtin b, [t, t'] => decide (b = .append) && Nat.beq t t' && slB P e t && limB P t lim 140737488355328 && xsB ρ c.args.toList xs
      | _, _ => false
    | _ => false
  | .appz _ e lim => match op with
    | .call c => match c.callee, c.argTypes.toList with
      | .builtin b, [t, t'] => decide (b = .append) && (match P.underlying t' with | some (.int _) => true | _ => false) && slB P e t && limB P t lim 140737488355328 && xsB ρ c.args.toList xs
      | _, _ => false
    | _ => false
  | .copy e => match op with
    | .call c => match c.callee, c.argTypes.toList with
      | .builtin b, [t, _] => decide (b = .copy) && slB P e t && xsB ρ c.args.toList xs
      | _, _ => false
    | _ => false
  | .mm mx _ => match op with
    | .call c => match c.callee with
      | .builtin b => decide (b = cond mx .max .min) && xsB ρ c.args.toList xs
      | _ => false
    | _ => false
  | .loadb T => match op, xs with
    | .load t x, [a, _] => tyOk P T t && xsB ρ [x] [a]
    | _, _ => false
  | .storeb T => match op, xs with
    | .store t x y, a :: b :: _ => tyOk P T t && xsB ρ [x, y] [a, b]
    | _, _ => false
  | .loadi T => match op with
    | .load t x => tyOk P T t && xsB ρ [x] xs
    | _ => false
  | .slicei e lo hi mx => match op with
    | .slice t x l h m => slB P e t && (l.isSome == lo) && (h.isSome == hi) && (m.isSome == mx) && xsB ρ (x :: (optL l ++ (optL h ++ optL m))) xs
    | _ => false
  | .bsli _ e len ix => match op with
    | .buildSlice t n ps => Nat.beq n len && slB P e t && Nat.ble (n * e.sz) 16777216 && (ps.toList.map (·.1) == ix) && xsB ρ (ps.toList.map (·.2)) xs
    | _ => false
  | .call _ _ _ _ => false
where
  tyOkF (P : Program) (_ : Ty) (t : TypeId) (j : Nat) (U : Ty) : Bool :=
    match P.underlying t with
    | some (.struct fs) => match fs[j]? with
      | some f => tyOk P U f.type
      | none => false
    | _ => false

section
variable {P : Program} {X : Ctx} {φ : Nat → Value} {tm : List S} {H : Hp} {a : Act} {w : World}

theorem xB_den (R : Rel X φ tm H a w) {o : Operand} {x : Pm.X} {s : S} (h : xB X.ρ o x = true) (he : evX tm x = some s) : SDen X.ρ (okB X φ H w.heap.size) φ H w s (a.eval o) := by
  cases x with
  | t m =>
    cases o <;> simp only [xB, Nat.beq_eq, Bool.false_eq_true] at h
    subst h
    exact R.tms _ s he
  | int k n =>
    cases o with
    | const v =>
      simp only [xB] at h
      split at h
      · simp only [Bool.and_eq_true, Nat.beq_eq, decide_eq_true_eq] at h
        simp only [evX, Option.some.injEq] at he
        subst he
        obtain ⟨h1, rfl⟩ := h
        obtain rfl := kc_inj h1
        exact ⟨[_], rfl, rfl⟩
      · cases h
    | _ => simp [xB] at h
  | bool b =>
    cases o with
    | const v =>
      simp only [xB] at h
      split at h
      · simp only [beq_iff_eq] at h
        simp only [evX, Option.some.injEq] at he
        subst he; subst h
        exact ⟨[_], rfl, rfl⟩
      · cases h
    | _ => simp [xB] at h
  | str b =>
    cases o with
    | const v =>
      simp only [xB] at h
      split at h
      · rename_i s'
        simp only [beq_iff_eq] at h
        simp only [evX, Option.some.injEq] at he
        subst he
        have : s' = b := by
          obtain ⟨⟨l⟩⟩ := s'; obtain ⟨⟨m⟩⟩ := b
          simp only at h; rw [h]
        subst this
        exact ⟨[_], rfl, rfl⟩
      · cases h
    | _ => simp [xB] at h
  | nil =>
    cases o with
    | const v =>
      simp only [xB] at h
      split at h
      · simp only [evX, Option.some.injEq] at he
        subst he
        exact rfl
      · cases h
    | _ => simp [xB] at h
  | fn g =>
    cases o with
    | func f =>
      simp only [xB] at h
      split at h
      · rename_i g' hg
        simp only [Nat.beq_eq] at h
        subst h
        simp only [evX, Option.some.injEq] at he
        subst he
        exact ⟨f, hg, rfl, by simp⟩
      · cases h
    | _ => simp [xB] at h
theorem xsB_den (R : Rel X φ tm H a w) : ∀ {os : List Operand} {xs : List Pm.X} {ss : List S}, xsB X.ρ os xs = true → evXs tm xs = some ss → All2 (SDen X.ρ (okB X φ H w.heap.size) φ H w) ss (os.map a.eval)
  | [], [], ss, _, he => by simp [evXs] at he; subst he; trivial
  | o :: os, x :: xs, ss, h, he => by
    simp only [xsB, Bool.and_eq_true] at h
    simp only [evXs] at he
    split at he
    · rename_i s ss' h1 h2
      injection he with he; subst he
      exact ⟨xB_den R h.1 h1, xsB_den R h.2 h2⟩
    · cases he
  | [], _ :: _, _, h, _ => by simp [xsB] at h
  | _ :: _, [], _, h, _ => by simp [xsB] at h

def Does (P : Program) (X : Ctx) (tm : List S) (a : Act) (w : World) (run : Result Next) (s : S) (H' : Hp) : Prop :=
  ∃ v w' φ', (run = .ok (.value v) w' ∨ run = .ok .skip w' ∧ v = undef) ∧ Rel X φ' tm H' a w' ∧ SDen X.ρ (okB X φ' H' w'.heap.size) φ' H' w' s v ∧ Fr X w w'
theorem Does.same (R : Rel X φ tm H a w) {run : Result Next} {s : S} {v : Value} (h : run = .ok (.value v) w) (hs : SDen X.ρ (okB X φ H w.heap.size) φ H w s v) : Does P X tm a w run s H :=
  ⟨v, w, φ, .inl h, R, hs, Fr.refl X w⟩
end
end Pm
end
section
/- Every operation that calls nothing: the machine does what the plain reading says. -/
namespace Pm
open Go Go.RowKit

section
variable {P : Program} {X : Ctx} {φ : Nat → Value} {tm : List S} {H : Hp} {a : Act} {w : World}
theorem all2_0 {α β : Type} {p : α → β → Prop} {l : List α} (h : All2 p l []) : l = [] := by cases l <;> first | rfl | exact h.elim
theorem all2_1 {α β : Type} {p : α → β → Prop} {l : List α} {b : β} (h : All2 p l [b]) : ∃ a, l = [a] ∧ p a b := by
  match l, h with
  | [a], ⟨h, _⟩ => exact ⟨a, rfl, h⟩
theorem all2_2 {α β : Type} {p : α → β → Prop} {l : List α} {b c : β} (h : All2 p l [b, c]) : ∃ a d, l = [a, d] ∧ p a b ∧ p d c := by
  match l, h with
  | [a, d], ⟨h, k, _⟩ => exact ⟨a, d, rfl, h, k⟩
theorem all2_3 {α β : Type} {p : α → β → Prop} {l : List α} {b c e : β} (h : All2 p l [b, c, e]) : ∃ a d f, l = [a, d, f] ∧ p a b ∧ p d c ∧ p f e := by
  match l, h with
  | [a, d, f], ⟨h, k, m, _⟩ => exact ⟨a, d, f, rfl, h, k, m⟩
theorem all2_cons {α β : Type} {p : α → β → Prop} {l : List α} {b : β} {bs : List β} (h : All2 p l (b :: bs)) : ∃ a as, l = a :: as ∧ p a b ∧ All2 p as bs := by
  match l, h with
  | a :: as, ⟨h, k⟩ => exact ⟨a, as, rfl, h, k⟩
theorem int_val {k : IntKind} {x : Int} {ok : Nat → Prop} {v : Value} (h : VV ok w (.int k) x v) : v = .int k x := by obtain ⟨cs, rfl, rfl⟩ := h; rfl
theorem bool_val {x : Bool} {ok : Nat → Prop} {v : Value} (h : VV ok w .bool x v) : v = .bool x := by obtain ⟨cs, rfl, rfl⟩ := h; rfl
theorem limB_spec {t : TypeId} {lim most : Nat} (h : limB P t lim most = true) : ∀ u inf, P.underlying t = some (.slice u) → P.info? u = some inf → lim * inf.bytes ≤ most := by
  intro u inf hu hi
  simp only [limB, hu, hi] at h
  simpa using h

theorem does_new {nm : Nat} {T : Ty} {d : D} {v : Value} {t : TypeId} (R : Rel X φ tm H a w) (hnm : H nm = none) (hc : cont T d = some d) (hd : DDen X.ρ (okB X φ H w.heap.size) φ H w d v) {cs : List Value} (hv : v.cells = cs.toArray) (hl : cs.length = T.sz) {run : Result Next}
    (hr : run = .ok (.value (.pointer (some ⟨w.heap.size, 0, none⟩))) (w.alloc (.cells v.cells t))) : Does P X tm a w run (.d (.ptr nm 0 [])) (upd H nm (.box T d)) :=
  ⟨_, _, _, .inl hr, R.newBox hnm hc hd hv hl, newBox_den, Fr.grown R.bnd (World.grownBy_alloc w _ none) (by simp)⟩
theorem cont_den {T : Ty} {t : TypeId} {d d' : D} {v : Value} (h : cont T d = some d') (hd : DDen X.ρ (okB X φ H w.heap.size) φ H w d v) : cont T d' = some d' ∧ DDen X.ρ (okB X φ H w.heap.size) φ H w d' v ∧ ∃ cs : List Value, v.cells = cs.toArray ∧ cs.length = T.sz := by
  cases d with
  | val t' y =>
    obtain ⟨y', hy', he⟩ := Option.map_eq_some_iff.1 h
    obtain ⟨e', hx⟩ := castT_some hy'
    subst e'; subst hx; subst he
    obtain ⟨vs, h1, h2⟩ := hd
    exact ⟨by simp [cont, castT_self], ⟨vs, h1, h2⟩, vs, by rw [h2]; exact packV_cells h1, h1.length⟩
  | nil =>
    cases T <;> simp [cont] at h
    subst h
    exact ⟨rfl, hd, [v], by rw [show v = _ from hd]; rfl, rfl⟩
  | ref m =>
    cases T <;> simp [cont] at h
    subst h
    exact ⟨rfl, hd, [v], cells_one hd.2.1, rfl⟩
  | _ => simp [cont] at h

theorem outeq {c c' : Chk} {s s' : S} {H1 H2 : Hp} (h : some (c, s, H1) = some (c', s', H2)) : c = c' ∧ s = s' ∧ H1 = H2 := by
  injection h with h; injection h with h1 h2; injection h2 with h2 h3; exact ⟨h1, h2, h3⟩
theorem pick_does (R : Rel X φ tm H a w) {o : Oper} {x y z : Operand} (ho : o.op = .pick x y z) {s1 s2 s3 : S} (h1 : SDen X.ρ (okB X φ H w.heap.size) φ H w s1 (a.eval x)) (h2 : SDen X.ρ (okB X φ H w.heap.size) φ H w s2 (a.eval y)) (h3 : SDen X.ρ (okB X φ H w.heap.size) φ H w s3 (a.eval z))
    {c : Chk} {s : S} {H' : Hp} (hc : pickI H [s1, s2, s3] = some (c, s, H')) : Does P X tm a w ((execOp a.eval o).run P w) s H' := by
  have gen : ∀ {b : Bool}, s1 = .d (.val .bool b) → H' = H ∧ s = cond b s2 s3 → Does P X tm a w ((execOp a.eval o).run P w) s H' := by
    rintro b rfl ⟨rfl, rfl⟩
    have hb := bool_val h1
    cases b
    · exact Does.same R (by simp [execOp, ho, hb, asBool]) h3
    · exact Does.same R (by simp [execOp, ho, hb, asBool]) h2
  cases s1 with
  | tup => simp [pickI] at hc
  | d d =>
    cases d with
    | val t b =>
      cases t with
      | bool =>
        simp only [pickI] at hc
        split at hc
        · obtain ⟨_, hs, hH⟩ := outeq hc
          exact gen rfl ⟨hH.symm, by rw [← hs]; cases b <;> rfl⟩
        · obtain ⟨_, hs, hH⟩ := outeq hc
          exact gen rfl ⟨hH.symm, hs.symm⟩
      | _ => simp [pickI] at hc
    | _ => simp [pickI] at hc
theorem new_inv {nm : Nat} {ob : Ob} {d : D} {c : Chk} {s : S} {H' : Hp} (h : new H nm ob d = some (c, s, H')) : H nm = none ∧ s = .d d ∧ H' = upd H nm ob := by
  unfold new at h
  split at h
  · rename_i hn
    obtain ⟨_, h2, h3⟩ := outeq h
    exact ⟨hn, h2.symm, h3.symm⟩
  · cases h
theorem newC_inv {c0 : Chk} {nm : Nat} {ob : Ob} {d : D} {c : Chk} {s : S} {H' : Hp} (h : newC c0 H nm ob d = some (c, s, H')) : H nm = none ∧ c = c0 ∧ s = .d d ∧ H' = upd H nm ob := by
  unfold newC at h
  split at h
  · rename_i hn
    obtain ⟨h1, h2, h3⟩ := outeq h
    exact ⟨hn, h1.symm, h2.symm, h3.symm⟩
  · cases h
theorem zip_eval (ρ : Operand → Value) : ∀ (ps : List (Nat × Operand)), ps.map (fun p => (p.1, ρ p.2)) = (ps.map (·.1)).zip (ps.map fun p => ρ p.2)
  | [] => rfl
  | p :: ps => by simp [zip_eval ρ ps]
theorem len_den (R : Rel X φ tm H a w) {d : D} {v : Value} {n : Nat} (hd : DDen X.ρ (okB X φ H w.heap.size) φ H w d v) (h : lenOf H d = some n) : ∃ A c, v = .slice A n c := by
  cases d with
  | val t x =>
    cases t with
    | sl e =>
      simp only [lenOf, Option.some.injEq] at h
      subst h
      obtain ⟨cs, ⟨A, c, rfl, _, _⟩, rfl⟩ := hd
      exact ⟨A, c, rfl⟩
    | _ => simp [lenOf] at h
  | fsl e xs =>
    simp only [lenOf, Option.some.injEq] at h; subst h
    obtain ⟨A, h1, _⟩ := hd; exact ⟨_, _, h1⟩
  | nn e xs =>
    simp only [lenOf, Option.some.injEq] at h; subst h
    obtain ⟨A, c, h1, _⟩ := hd; exact ⟨_, _, h1⟩
  | nil =>
    simp only [lenOf, Option.some.injEq] at h; subst h
    exact ⟨none, 0, hd⟩
  | ref m =>
    obtain ⟨rfl, _, ob, ho, _⟩ := hd
    simp only [lenOf, ho] at h
    cases ob with
    | arr e xs l =>
      simp only [Option.some.injEq] at h; subst h
      obtain ⟨T, cs, hr, _⟩ := R.obs _ _ ho
      rcases hr.2 with ⟨h1, h2⟩ | ⟨g, cap, cur, hv, _⟩
      · exact ⟨none, 0, by rw [h1, h2]⟩
      · exact ⟨_, _, hv⟩
    | _ => cases h
  | _ => simp [lenOf] at h
theorem mm_den {mx : Bool} {k : IntKind} : ∀ {ss : List S} {vs : List Value} {x n : Int}, All2 (SDen X.ρ (okB X φ H w.heap.size) φ H w) ss vs → mmI mx x ss = some n → (vs.foldlM (cond mx Builtin.max2 Builtin.min2) (.int k x)).run P w = .ok (.int k n) w
  | [], vs, x, n, h, he => by
    cases vs with
    | nil => simp only [mmI, Option.some.injEq] at he; subst he; rfl
    | cons => exact h.elim
  | s :: ss, vs, x, n, h, he => by
    cases vs with
    | nil => exact h.elim
    | cons v vs =>
      cases s with
      | tup => simp [mmI] at he
      | d d =>
        cases d with
        | val t b =>
          cases t with
          | int k' =>
            simp only [mmI] at he
            have hv := int_val h.1
            subst hv
            have ih := mm_den (k := k) h.2 he
            cases mx
            · simpa [Builtin.min2] using ih
            · simpa [Builtin.max2] using ih
          | _ => simp [mmI] at he
        | _ => simp [mmI] at he
theorem names_den (R : Rel X φ tm H a w) : ∀ {ss : List S} {vs : List Value} {ns : List Nat}, All2 (SDen X.ρ (okB X φ H w.heap.size) φ H w) ss vs → names H ss = some ns → vs = ns.map φ ∧ ∀ n ∈ ns, ∃ t d, H n = some (.box t d)
  | [], vs, ns, h, he => by
    cases vs with
    | nil => simp only [names, Option.some.injEq] at he; subst he; exact ⟨rfl, by simp⟩
    | cons => exact h.elim
  | s :: ss, vs, ns, h, he => by
    cases vs with
    | nil => exact h.elim
    | cons v vs =>
      unfold names at he
      split at he
      · rename_i heq; cases heq
      · rename_i n ss' heq
        injection heq with e1 e2
        subst e1; subst e2
        split at he
        · rename_i t d hb
          obtain ⟨ns', h1, rfl⟩ := Option.map_eq_some_iff.1 he
          obtain ⟨r1, r2⟩ := names_den R h.2 h1
          obtain ⟨ob, ho, hp⟩ := h.1
          rw [hb] at ho; injection ho with ho; subst ho
          obtain ⟨_, b, hbk, hv⟩ := hp
          obtain ⟨_, g, T, cs, v0, hv0, _⟩ := R.obs _ _ hb
          rw [hv0] at hbk; injection hbk with hbk; subst hbk
          refine ⟨by rw [r1, hv, off_nil, List.map_cons, hv0], fun m hm => ?_⟩
          rcases List.mem_cons.1 hm with rfl | hm
          · exact ⟨_, _, hb⟩
          · exact r2 m hm
        · cases he
      · cases he
theorem optI_den {b : Bool} {o : Option Operand} (hb : (o.isSome == b) = true) {ss : List S} {vs : List Value} (h : All2 (SDen X.ρ (okB X φ H w.heap.size) φ H w) ss ((optL o).map a.eval ++ vs)) {n : Option Int} {ss' : List S} (he : optI b ss = some (n, ss')) :
    (∃ k, o.map a.eval = n.map (.int k)) ∧ All2 (SDen X.ρ (okB X φ H w.heap.size) φ H w) ss' vs := by
  cases o with
  | none =>
    cases b with
    | true => simp at hb
    | false =>
      simp only [optI, Option.some.injEq, Prod.mk.injEq] at he
      obtain ⟨rfl, rfl⟩ := he
      exact ⟨⟨.i64, rfl⟩, by simpa [optL] using h⟩
  | some x =>
    cases b with
    | false => simp at hb
    | true =>
      simp only [optL, List.map_cons, List.map_nil, List.cons_append, List.nil_append] at h
      obtain ⟨s1, ss1, rfl, h1, h2⟩ := all2_cons h
      cases s1 with
      | tup => simp [optI] at he
      | d d =>
        cases d with
        | val t n1 =>
          cases t with
          | int k =>
            simp only [optI, Option.some.injEq, Prod.mk.injEq] at he
            obtain ⟨rfl, rfl⟩ := he
            exact ⟨⟨k, by simp [int_val h1]⟩, h2⟩
          | _ => simp [optI] at he
        | _ => simp [optI] at he

theorem run_eqNil {t u : TypeId} (hu : P.underlying t = some (.slice u)) (A : Option Addr) (n c : Nat) : (Go.Op.equal t (.slice A n c) (.slice none 0 0)).run P w = .ok A.isNone w := by
  have h2 : Go.Op.equal t (.slice A n c) (.slice none 0 0) = Go.Op.equalIn (9999 + 1) t (.slice A n c) (.slice none 0 0) := rfl
  rw [h2, Go.Op.equalIn]
  cases A <;> simp [run_underlying hu]
theorem run_isNil {t u : TypeId} (hu : P.underlying t = some (.slice u)) {b : BinOp} {ng : Bool} (k : (match b with | .eql => !ng | .neq => ng | _ => false) = true) (x y : Operand) (A : Option Addr) (n c : Nat) :
    (do eqGuard b t x y (.slice A n c) (.slice none 0 0); Go.binOp b t (.slice A n c) (.slice none 0 0)).run P w = .ok (.bool (cond ng (!A.isNone) A.isNone)) w := by
  have h := run_eqNil (P := P) (w := w) hu A n c
  cases b <;> simp at k <;> subst k
  · have e1 : Go.binOp .eql t (.slice A n c) (.slice none 0 0) = (do pure (Value.bool (← Go.Op.equal t (.slice A n c) (.slice none 0 0)))) := by unfold Go.binOp; rfl
    rw [e1]
    simp only [eqGuard, Sem.run_bind]
    simp [h]
  · have e1 : Go.binOp .neq t (.slice A n c) (.slice none 0 0) = (do pure (Value.bool (!(← Go.Op.equal t (.slice A n c) (.slice none 0 0))))) := by unfold Go.binOp; rfl
    rw [e1]
    simp only [eqGuard, Sem.run_bind]
    simp [h]
theorem take_len {α : Type} {L M : List α} {k : Nat} (h : L.length = k) : (L ++ M).take k = L := by subst h; exact List.take_left
theorem mk_den (R : Rel X φ tm H a w) {e : Ty} {t : TypeId} (k1 : slB P e t = true) {lim : Nat} (hl : ∀ u inf, P.underlying t = some (.slice u) → P.info? u = some inf → lim * inf.bytes ≤ 281474976710656) {nm : Nat} (hnm : H nm = none) {n m : Int} (hp : 0 ≤ n ∧ n ≤ m ∧ m ≤ (lim : Int)) {kl kc' : IntKind} {run : Result Next}
    (hx : run = ((Instr.makeSlice t (.int kl n) (.int kc' m)).run P w).andThen fun v w' => .ok (.value v) w') : Does P X tm a w run (.d (.ref nm)) (upd H nm (.arr e (List.replicate n.toNat e.z) .lv)) := by
  obtain ⟨p0, p1, p2⟩ := hp
  obtain ⟨u, hu, hk, hpos⟩ := slB_spec k1
  obtain ⟨inf, z, hi, hs, hz, hzb, hby, hzs⟩ := info_of hk
  have hlim := hl u inf hu hi
  have hml : m.toNat ≤ lim := by omega
  have hm1 : m.toNat * inf.bytes ≤ 281474976710656 := Nat.le_trans (Nat.mul_le_mul_right _ hml) hlim
  have hm2 : m.toNat ≤ 281474976710656 := Nat.le_trans (Nat.le_mul_of_pos_right _ hby) hm1
  have hrun := run_make (P := P) w t u inf z hu hi hz kl kc' n m p0 p1 (by
    have : ((m.toNat * inf.bytes : Nat) : Int) ≤ 281474976710656 := by omega
    rw [Int.natCast_mul, Int.mul_comm] at this
    rwa [Int.toNat_of_nonneg (by omega)] at this) (by omega)
  rw [hs] at hrun
  have hel := (ElemsD_zeros (w := w) (ok := okB X φ H w.heap.size) (n := m.toNat) hzb hzs hpos).take n.toNat
  rw [List.take_replicate, Nat.min_eq_left (by omega)] at hel
  have hnm2 := Nat.mul_le_mul_right e.sz (show n.toNat ≤ m.toNat by omega)
  obtain ⟨r1, r2, r3⟩ := R.newArr (w' := w.alloc (.cells (madeCells z.cells (m.toNat * e.sz)) u)) hnm (e := e) (xs := List.replicate n.toNat e.z) (v := .slice (some ⟨w.heap.size, 0, none⟩) n.toNat m.toNat) (T := u) (World.grownBy_alloc w _ none) ⟨by rw [List.length_take, Array.length_toList, size_madeCells, List.length_replicate]; omega, .inr ⟨w.heap.size, m.toNat, _, by rw [List.length_replicate], Nat.le_refl _, heap_alloc_new w _, by rw [List.length_replicate]; omega, by simp only [maxLen]; omega, size_madeCells _ _, by rw [List.length_replicate]⟩⟩ hel
  exact ⟨_, _, _, .inl (by rw [hx, hrun]; rfl), r1, r2, r3⟩
/-- append(nil, make([]T, n)...). -/
theorem appz_den (R : Rel X φ tm H a w) {e : Ty} {t t2 : TypeId} (k1 : slB P e t = true) {k2 : IntKind} (ht2 : P.underlying t2 = some (.int k2)) {lim : Nat} (hl : ∀ u inf, P.underlying t = some (.slice u) → P.info? u = some inf → lim * inf.bytes ≤ 140737488355328) {nm : Nat} (hnm : H nm = none) {n : Int} (hp : 0 ≤ n ∧ n < (lim : Int)) {k : IntKind} {ty : TypeId} {run : Result Next}
    (hx : run = ((Builtin.append_ #[t, t2] ty #[.slice none 0 0, .int k n]).run P w).andThen fun v w' => .ok (.value v) w') : Does P X tm a w run (.d (.ref nm)) (upd H nm (.arr e (List.replicate n.toNat e.z) .lv)) := by
  obtain ⟨p0, p1⟩ := hp
  obtain ⟨u, hu, hk, hpos⟩ := slB_spec k1
  obtain ⟨inf, z, hi, hs, hz, hzb, hby, hzs⟩ := info_of hk
  have hlim := hl u inf hu hi
  obtain ⟨m, rfl⟩ := Int.eq_ofNat_of_zero_le p0
  simp only [Int.toNat_natCast] at *
  have hml : m ≤ lim := by omega
  have hm1 : m * inf.bytes ≤ 140737488355328 := Nat.le_trans (Nat.mul_le_mul_right _ hml) hlim
  have hm2 : m ≤ 140737488355328 := Nat.le_trans (Nat.le_mul_of_pos_right _ hby) hm1
  by_cases h0 : m = 0
  · subst h0
    obtain ⟨r1, r2, r3⟩ := R.newArr (w' := w) hnm (e := e) (xs := List.replicate 0 e.z) (v := .slice none 0 0) (T := 0) (cs := []) ⟨rfl, rfl, rfl, Nat.le_refl _, fun _ _ _ => rfl⟩ (World.ownsRow_nil w _ _ _) (fun i hi => absurd hi (by simp))
    refine ⟨.slice none 0 0, w, _, .inl ?_, r1, r2, r3⟩
    rw [hx]
    simp [Builtin.append_, run_underlying hu, run_underlying ht2, Go.sizeOf, typeInfo, zeroValue, hi, hz, asInt, asIntOf, show IntKind.i64.wrap 0 = 0 from rfl]
  · have hrun := Go.Lib.run_append_nil_zeros (P := P) w t t2 ty u inf z k k2 hu ht2 hi hz m (by omega) (by omega) (by omega) (by omega)
    have hg1 := grownCap_ge w m 0 u
    have hg2 := grownCap_le_maxLen w m 0 u (by simp only [maxLen]; omega)
    have hzc : (Builtin.zeroCells z.cells m) = madeCells z.cells (m * e.sz) := by simp [Builtin.zeroCells, madeCells, hzs]
    have hel := ElemsD_zeros (w := w) (ok := okB X φ H w.heap.size) (n := m) hzb hzs hpos
    obtain ⟨r1, r2, r3⟩ := R.newArr (w' := w.drew.alloc (.cells (Builtin.zeroCells z.cells m ++ Builtin.zeroCells z.cells (grownCap w m 0 u - m)) u)) hnm (e := e) (xs := List.replicate m e.z) (v := .slice (some ⟨w.heap.size, 0, none⟩) m (grownCap w m 0 u)) (T := u) ⟨rfl, rfl, rfl, by simp, fun k hk _ => heap_alloc_old w.drew _ k hk⟩ ⟨by simp [size_madeCells], .inr ⟨w.heap.size, grownCap w m 0 u, _, by rw [List.length_replicate], Nat.le_refl _, heap_alloc_new w.drew _, by rw [List.length_replicate]; exact hg1, hg2, by
        simp only [Array.size_append, size_zeroCells, hzs, ← Nat.add_mul]; congr 1; omega, by
        rw [List.length_replicate, hzc, Array.toList_append]
        exact take_len (by simp [size_madeCells])⟩⟩ hel
    exact ⟨_, _, _, .inl (by rw [hx, hrun]; rfl), r1, r2, r3⟩
def In.old : In → Bool
  | .loadi _ => false
  | .loadb _ => false
  | .storeb _ => false
  | .slicei _ _ _ _ => false
  | .bsli _ _ _ _ => false
  | _ => true
set_option maxHeartbeats 4000000 in
theorem op_does0 (R : Rel X φ tm H a w) {o : Oper} {i : In} {xs : List Pm.X} {ss : List S} {c : Chk} {s : S} {H' : Hp} (hold : i.old = true) (h : okI P X.ρ o.op xs i = true) (he : evXs tm xs = some ss) (hc : core H i ss = some (c, s, H')) (hp : c.p) :
    Does P X tm a w ((execOp a.eval o).run P w) s H' := by
  cases i with
  | loadi => cases hold
  | loadb => cases hold
  | storeb => cases hold
  | slicei => cases hold
  | bsli => cases hold
  | mov =>
    simp only [okI] at h
    split at h <;> first | cases h | skip
    all_goals
      rename_i x ho
      obtain ⟨s1, rfl, h1⟩ := all2_1 (xsB_den R h he)
      obtain ⟨_, rfl, rfl⟩ := outeq hc
      exact Does.same R (by simp [execOp, ho]) h1
  | own0 nm e =>
    simp only [okI, Bool.and_eq_true, List.isEmpty_iff] at h
    obtain ⟨rfl, h⟩ := h
    simp only [evXs, Option.some.injEq] at he
    subst he
    obtain ⟨hnm, rfl, rfl⟩ := new_inv hc
    have key : (execOp a.eval o).run P w = .ok (.value (.slice none 0 0)) w := by
      split at h <;> first | cases h | skip
      all_goals
        rename_i x ho
        unfold isNilC at h
        split at h <;> first | cases h | skip
        split at h <;> first | cases h | skip
        simp [execOp, ho, Act.eval]
    obtain ⟨r1, r2, r3⟩ := R.newArr (w' := w) hnm (e := e) (xs := []) (v := .slice none 0 0) (T := 0) (cs := []) ⟨rfl, rfl, rfl, Nat.le_refl _, fun _ _ _ => rfl⟩ (World.ownsRow_nil w _ _ _) (fun i hi => absurd hi (by simp))
    exact ⟨_, w, _, .inl key, r1, r2, r3⟩
  | pick =>
    simp only [okI] at h
    split at h <;> first | cases h | skip
    rename_i x y z ho
    obtain ⟨s1, s2, s3, rfl, h1, h2, h3⟩ := all2_3 (xsB_den R h he)
    exact pick_does R ho h1 h2 h3 hc
  | box nm T =>
    simp only [okI] at h
    split at h <;> first | cases h | skip
    rename_i t x ho
    simp only [Bool.and_eq_true] at h
    obtain ⟨s1, rfl, h1⟩ := all2_1 (xsB_den R h.2 he)
    cases s1 with
    | tup => simp [core, boxI] at hc
    | d d =>
      simp only [core, boxI] at hc
      split at hc
      · rename_i d' hd'
        obtain ⟨hnm, rfl, rfl⟩ := new_inv hc
        obtain ⟨c1, c2, cs, c3, c4⟩ := cont_den (t := t) hd' h1
        exact does_new (t := t) R hnm c1 c2 c3 c4 (by simp [execOp, ho, Instr.box, newVar, newRow])
      · cases hc
  | alloc nm T =>
    simp only [okI, Bool.and_eq_true, List.isEmpty_iff] at h
    obtain ⟨rfl, h⟩ := h
    simp only [evXs, Option.some.injEq] at he
    subst he
    split at h <;> first | cases h | skip
    rename_i t ho
    obtain ⟨hnm, rfl, rfl⟩ := new_inv hc
    obtain ⟨inf, z, hi, hs, hz, hzb, _, _⟩ := info_of h
    have hv := zB_den (ok := okB X φ H w.heap.size) (w := w) hzb
    refine does_new (t := t) (d := .val T T.z) (v := packV T z.cells.toList) R hnm (by simp [cont, castT_self]) ⟨_, hv, rfl⟩ (packV_cells hv) hv.length ?_
    rw [packV_cells hv]
    simp [execOp, ho, Instr.alloc, zeroValue, typeInfo, hi, hz, newVar, newRow]
  | build T qs =>
    simp only [okI] at h
    split at h <;> first | cases h | skip
    rename_i t ps ho
    simp only [Bool.and_eq_true] at h
    obtain ⟨⟨⟨⟨k1, k2⟩, k3⟩, k4⟩, k5⟩ := h
    simp only [core, buildI] at hc
    split at hc
    · rename_i vs hvs
      split at hc
      · rename_i x hx
        obtain ⟨_, rfl, rfl⟩ := outeq hc
        have hall := xsB_den R k5 he
        have hsn := snaps_den R hall hvs
        obtain ⟨v', e1, e2⟩ := build_den (P := P) (w := w) k1 k2 k3 k4 hsn (by simp) hx (snaps_types hvs)
        refine ⟨v', w, φ, .inl ?_, R.fz (frzs_fz ss H), e2, Fr.refl X w⟩
        have hpe : (ps.map fun (x : Nat × Operand) => (x.1, a.eval x.2)) = ((ps.toList.map (·.1)).zip ((ps.toList.map (·.2)).map a.eval)).toArray := by
          apply Array.ext'
          rw [Array.toList_map, zip_eval, List.map_map]
          rfl
        have hx2 : (execOp a.eval o).run P w = ((Instr.build t (ps.map fun (x : Nat × Operand) => (x.1, a.eval x.2))).run P w).andThen fun v w' => .ok (.value v) w' := by
          simp [execOp, ho]
        rw [hx2, hpe, e1]; rfl
      · cases hc
    · cases hc
  | bsl nm e len ix =>
    simp only [okI] at h
    split at h <;> first | cases h | skip
    rename_i t n ps ho
    simp only [Bool.and_eq_true, Nat.beq_eq, beq_iff_eq] at h
    obtain ⟨⟨⟨⟨rfl, k2⟩, k3⟩, k4⟩, k5⟩ := h
    simp only [core, bslI] at hc
    split at hc
    · rename_i vs hvs
      split at hc
      · rename_i xs' hxs
        split at hc
        · rename_i hnm
          obtain ⟨_, rfl, rfl⟩ := outeq hc
          obtain ⟨u, hu, hk, hpos⟩ := slB_spec k2
          obtain ⟨inf, z, hi, hs, hz, hzb, hby, hzs⟩ := info_of hk
          have hall := xsB_den R k5 he
          have hsn := snaps_den R hall hvs
          have R1 := R.fz (frzs_fz ss H)
          obtain ⟨cells', e1, e2, e3, e4⟩ := sets_den (ok := okB X φ (frzs H ss) w.heap.size) (w := w) hpos ix vs _ _ xs' (madeCells z.cells (n * e.sz)) (ElemsD_zeros (n := n) hzb hzs hpos) (by rw [size_madeCells, List.length_replicate]) hsn (by rw [← k4]; simp) hxs
          have hlen : xs'.length = n := by rw [e3, List.length_replicate]
          have hpe : (ps.map fun (x : Nat × Operand) => (x.1, a.eval x.2)).toList = ix.zip ((ps.toList.map (·.2)).map a.eval) := by
            rw [Array.toList_map, zip_eval, k4, List.map_map]
            rfl
          have hx2 : (execOp a.eval o).run P w = ((Instr.buildSlice t n (ps.map fun (x : Nat × Operand) => (x.1, a.eval x.2))).run P w).andThen fun v w' => .ok (.value v) w' := by
            simp [execOp, ho]
          have hk3 : n * e.sz ≤ 16777216 := by simpa using k3
          have hrun : (Instr.buildSlice t n (ps.map fun (x : Nat × Operand) => (x.1, a.eval x.2))).run P w = .ok (.slice (some ⟨w.heap.size, 0, none⟩) n n) (w.alloc (.cells cells' u)) := by
            by_cases h0 : n = 0
            · subst h0
              have hix : ix = [] := by
                cases ix with
                | nil => rfl
                | cons i ix =>
                  cases vs with
                  | nil => simp [sets] at hxs
                  | cons v vs =>
                    simp only [sets] at hxs
                    split at hxs
                    · rw [show Nat.blt i (List.replicate 0 e.z).length = false from rfl] at hxs; cases hxs
                    · cases hxs
              have hps : ps = #[] := by
                subst hix
                apply Array.ext'
                simpa using k4
              subst hix
              subst hps
              have hcc : cells' = #[] := by
                have : cells'.size = 0 := by rw [e4, size_madeCells]; omega
                exact Array.eq_empty_of_size_eq_zero this
              subst hcc
              simp [Instr.buildSlice, run_underlying hu, Go.sizeOf, typeInfo, hi, hs, newRow, Instr.fill]
              rw [show Array.map (fun _ => (default : Value)) (Array.range 0) = #[] from by apply Array.ext'; simp]
            · exact run_buildSlice w t u n _ cells' inf z hu hi hz (by rw [hs]; omega) (by rw [hs]; exact Nat.mul_ne_zero h0 (by omega)) (by
                rw [hs, hpe]
                exact e1)
          have hown := World.ownsRow_lit (base := w.heap.size) (e := u) (size := e.sz) w cells' n (Nat.le_refl _) (by have := Nat.le_mul_of_pos_right n hpos; simp only [maxLen]; omega) (by rw [e4, size_madeCells])
          obtain ⟨r1, r2, r3⟩ := R1.newArr (w' := w.alloc (.cells cells' u)) ((frzs_fz ss H).none hnm) (xs := xs') (World.grownBy_alloc w _ none) (own_len hown hlen.symm) e2
          exact ⟨_, _, _, .inl (by rw [hx2, hrun]; rfl), r1, r2, r3⟩
        · cases hc
      · cases hc
    · cases hc
  | load T =>
    simp only [okI] at h
    split at h <;> first | cases h | skip
    rename_i t x ho
    simp only [Bool.and_eq_true] at h
    obtain ⟨s1, rfl, h1⟩ := all2_1 (xsB_den R h.2 he)
    cases s1 with
    | tup => simp [core, loadI] at hc
    | d d =>
      simp only [core, loadI] at hc
      obtain ⟨d', hd', he'⟩ := Option.map_eq_some_iff.1 hc
      simp only [Prod.mk.injEq] at he'
      obtain ⟨_, rfl, rfl⟩ := he'
      obtain ⟨v', e1, e2⟩ := ldI_den R h.1 h1 hd'
      exact Does.same R (by simp [execOp, ho, e1]) e2
  | store T =>
    simp only [okI] at h
    split at h <;> first | cases h | skip
    rename_i t x y ho
    simp only [Bool.and_eq_true] at h
    obtain ⟨s1, s2, rfl, h1, h2⟩ := all2_2 (xsB_den R h.2 he)
    cases s1 with
    | tup => simp [core, storeI] at hc
    | d d =>
      cases d with
      | ptr n i p =>
        cases s2 with
        | tup => simp [core, storeI] at hc
        | d d2 =>
          simp only [core, storeI] at hc
          obtain ⟨H2, hH2, he'⟩ := Option.map_eq_some_iff.1 hc
          simp only [Prod.mk.injEq] at he'
          obtain ⟨_, rfl, rfl⟩ := he'
          obtain ⟨w', e1, e2, e3⟩ := stAt_den R h.1 h1 h2 hH2
          exact ⟨undef, w', φ, .inr ⟨by simp [execOp, ho, e1], rfl⟩, e2, trivial, e3⟩
      | _ => simp [core, storeI] at hc
  | bin b T =>
    simp only [okI] at h
    split at h <;> first | cases h | skip
    rename_i b' t x y t2 ho
    simp only [Bool.and_eq_true, decide_eq_true_eq] at h
    obtain ⟨⟨rfl, k2⟩, k3⟩ := h
    obtain ⟨s1, s2, rfl, h1, h2⟩ := all2_2 (xsB_den R k3 he)
    simp only [core] at hc
    unfold binI at hc
    split at hc <;> first | (exfalso; revert hc; simp; done) | skip
    rename_i t1 x1 t2 y1 heq
    simp only [List.cons.injEq, and_true] at heq
    obtain ⟨rfl, rfl⟩ := heq
    split at hc <;> first | (exfalso; revert hc; simp; done) | skip
    rename_i x2 y2 hx2 hy2
    obtain ⟨e1, f1⟩ := castT_some hx2
    obtain ⟨e2, f2⟩ := castT_some hy2
    subst e1; subst f1; subst e2; subst f2
    obtain ⟨r, hr, he'⟩ := Option.map_eq_some_iff.1 hc
    obtain ⟨rc, rv⟩ := r
    simp only [Prod.mk.injEq] at he'
    obtain ⟨rfl, rfl, rfl⟩ := he'
    obtain ⟨c1, g1, hv1⟩ := h1
    obtain ⟨c2, g2, hv2⟩ := h2
    obtain ⟨v, e1, e2⟩ := binOp_den (P := P) (w := w) g1 g2 hr hp (t := t) (by
      revert k2
      split
      · intro _; exact .inl ⟨_, rfl⟩
      · intro k2; exact .inr k2) x y
    rw [← hv1, ← hv2] at e1
    refine Does.same R (v := v) ?_ e2
    simp only [execOp, ho, Sem.run_bind] at e1 ⊢
    rw [show (((eqGuard b' t x y (a.eval x) (a.eval y)).run P w).andThen fun _ w' => (Go.binOp b' t (a.eval x) (a.eval y)).run P w') = .ok v w from e1]
    rfl
  | isNil ng =>
    simp only [okI] at h
    split at h <;> first | cases h | skip
    rename_i b t x y t2 ho
    simp only [Bool.and_eq_true] at h
    obtain ⟨⟨k1, k2⟩, k3⟩ := h
    obtain ⟨s1, s2, rfl, h1, h2⟩ := all2_2 (xsB_den R k3 he)
    split at k2 <;> first | cases k2 | skip
    rename_i u hu
    simp only [core] at hc
    unfold isNilI at hc
    split at hc <;> first | (exfalso; revert hc; simp; done) | skip
    · rename_i heq
      simp only [List.cons.injEq, and_true] at heq
      obtain ⟨rfl, rfl⟩ := heq
      obtain ⟨_, rfl, rfl⟩ := outeq hc
      have e1 : a.eval x = .slice none 0 0 := h1
      have e2 : a.eval y = .slice none 0 0 := h2
      refine Does.same R (v := .bool (!ng)) ?_ ⟨[_], rfl, rfl⟩
      have := run_isNil (P := P) (w := w) hu k1 x y none 0 0
      simp only [execOp, ho, e1, e2, Sem.run_bind] at this ⊢
      rw [this]
      cases ng <;> rfl
    · rename_i e xs' heq
      simp only [List.cons.injEq, and_true] at heq
      obtain ⟨rfl, rfl⟩ := heq
      obtain ⟨_, rfl, rfl⟩ := outeq hc
      obtain ⟨ad, cc, e1, _⟩ := h1
      have e2 : a.eval y = .slice none 0 0 := h2
      refine Does.same R (v := .bool ng) ?_ ⟨[_], rfl, rfl⟩
      have := run_isNil (P := P) (w := w) hu k1 x y (some ad) xs'.length cc
      simp only [execOp, ho, e1, e2, Sem.run_bind] at this ⊢
      rw [this]
      cases ng <;> rfl
  | neg k =>
    simp only [okI] at h
    split at h <;> first | cases h | skip
    rename_i u t x ho
    simp only [Bool.and_eq_true] at h
    obtain ⟨s1, rfl, h1⟩ := all2_1 (xsB_den R h.2 he)
    simp only [core] at hc
    unfold negI at hc
    split at hc <;> first | (exfalso; revert hc; simp; done) | skip
    rename_i k0 y heq
    simp only [List.cons.injEq, and_true] at heq
    subst heq
    cases hb : Nat.beq (kc k0) (kc k) with
    | false => rw [hb] at hc; cases hc
    | true =>
      rw [hb] at hc
      obtain rfl := kc_inj (Nat.eq_of_beq_eq_true hb)
      obtain ⟨_, rfl, rfl⟩ := outeq hc
      have hv := int_val h1
      refine Does.same R (v := .int k0 (k0.wrap (0 - y))) ?_ ⟨[_], rfl, rfl⟩
      cases u <;> simp at h
      simp [execOp, ho, hv, Go.Op.unary, Go.Op.intArith]
  | not =>
    simp only [okI] at h
    split at h <;> first | cases h | skip
    rename_i u t x ho
    simp only [Bool.and_eq_true] at h
    obtain ⟨s1, rfl, h1⟩ := all2_1 (xsB_den R h.2 he)
    simp only [core] at hc
    unfold notI at hc
    split at hc <;> first | (exfalso; revert hc; simp; done) | skip
    rename_i b heq
    simp only [List.cons.injEq, and_true] at heq
    subst heq
    obtain ⟨_, rfl, rfl⟩ := outeq hc
    have hv := bool_val h1
    refine Does.same R (v := .bool (!b)) ?_ ⟨[_], rfl, rfl⟩
    cases u <;> simp at h
    simp [execOp, ho, hv, Go.Op.unary]
  | conv k k' =>
    simp only [okI] at h
    split at h <;> first | cases h | skip
    rename_i sT dT x ho
    simp only [Bool.and_eq_true] at h
    obtain ⟨⟨k1, k2⟩, k3⟩ := h
    obtain ⟨s1, rfl, h1⟩ := all2_1 (xsB_den R k3 he)
    split at k1 <;> first | cases k1 | skip
    rename_i ks hks
    split at k2 <;> first | cases k2 | skip
    rename_i kd hkd
    obtain rfl := kc_inj (Nat.eq_of_beq_eq_true k2)
    simp only [core] at hc
    unfold convI at hc
    split at hc <;> first | (exfalso; revert hc; simp; done) | skip
    rename_i k0 y heq
    simp only [List.cons.injEq, and_true] at heq
    subst heq
    obtain ⟨_, rfl, rfl⟩ := outeq hc
    have hv := int_val h1
    refine Does.same R (v := .int kd (kd.wrap y)) ?_ ⟨[_], rfl, rfl⟩
    simp [execOp, ho, hv, Go.convert, run_underlying hks, run_underlying hkd, Go.Conv.intToInt]
  | mkfn g =>
    simp only [okI] at h
    split at h <;> first | cases h | skip
    rename_i f first caps ho
    simp only [Bool.and_eq_true] at h
    obtain ⟨⟨k1, k2⟩, k3⟩ := h
    split at k2 <;> first | cases k2 | skip
    rename_i g' hg
    obtain rfl := Nat.eq_of_beq_eq_true k2
    simp only [core, mkfnI] at hc
    obtain ⟨ns, hns, he'⟩ := Option.map_eq_some_iff.1 hc
    simp only [Prod.mk.injEq] at he'
    obtain ⟨_, rfl, rfl⟩ := he'
    obtain ⟨e1, e2⟩ := names_den R (xsB_den R k3 he) hns
    have hf : first = #[] := by simpa using k1
    subst hf
    refine Does.same R (v := .func (.func f) #[] (ns.map φ).toArray) ?_ ⟨f, hg, rfl, e2⟩
    have : caps.map a.eval = (ns.map φ).toArray := by
      rw [← e1]; apply Array.ext'; simp
    simp [execOp, ho, Instr.makeFunc, this]
  | mksl nm e lim =>
    simp only [okI] at h
    split at h <;> first | cases h | skip
    rename_i t l cc ho
    simp only [Bool.and_eq_true] at h
    obtain ⟨⟨k1, k2⟩, k3⟩ := h
    obtain ⟨s1, s2, rfl, h1, h2⟩ := all2_2 (xsB_den R k3 he)
    obtain ⟨u, hu, hk, hpos⟩ := slB_spec k1
    obtain ⟨inf, z, hi, hs, hz, hzb, hby, hzs⟩ := info_of hk
    have hlim := limB_spec k2 u inf hu hi
    simp only [core] at hc
    unfold mkslI at hc
    split at hc <;> first | (exfalso; revert hc; simp; done) | skip
    rename_i kl n kc' m heq
    simp only [List.cons.injEq, and_true] at heq
    obtain ⟨rfl, rfl⟩ := heq
    obtain ⟨hnm, rfl, rfl, rfl⟩ := newC_inv hc
    exact mk_den (kl := kl) (kc' := kc') R k1 (limB_spec k2) hnm hp (by simp [execOp, ho, int_val h1, int_val h2])
  | slice nm m e lo hi mx =>
    simp only [okI] at h
    split at h <;> first | cases h | skip
    rename_i t x l hh mm ho
    simp only [Bool.and_eq_true] at h
    obtain ⟨⟨⟨⟨k1, k2⟩, k3⟩, k4⟩, k5⟩ := h
    have hall := xsB_den R k5 he
    rw [List.map_cons, List.map_append, List.map_append] at hall
    obtain ⟨s1, ss1, rfl, h1, h2⟩ := all2_cons hall
    cases s1 with
    | tup => simp [core, sliceO] at hc
    | d d =>
      simp only [core, sliceO] at hc
      split at hc <;> first | (exfalso; revert hc; simp; done) | skip
      rename_i lo' ss2 ho1
      obtain ⟨⟨kl, q1⟩, h3⟩ := optI_den k2 h2 ho1
      split at hc <;> first | (exfalso; revert hc; simp; done) | skip
      rename_i hi' ss3 ho2
      obtain ⟨⟨kh, q2⟩, h4⟩ := optI_den k3 h3 ho2
      split at hc <;> first | (exfalso; revert hc; simp; done) | skip
      rename_i mx' ho3
      obtain ⟨⟨km, q3⟩, h5⟩ := optI_den k4 (vs := []) (by simpa using h4) ho3
      obtain ⟨v', φ', e1, e2, e3⟩ := slice_den R k1 h1 kl kh km hc hp
      rw [← q1, ← q2, ← q3] at e1
      exact ⟨v', w, φ', .inl (by simp [execOp, ho, e1]), e2, e3, Fr.refl X w⟩
  | fld T p U =>
    simp only [okI] at h
    split at h <;> first | cases h | skip
    rename_i t x j ho
    simp only [Bool.and_eq_true] at h
    obtain ⟨⟨k1, k2⟩, k3⟩ := h
    obtain ⟨s1, rfl, h1⟩ := all2_1 (xsB_den R k3 he)
    obtain ⟨hT, fs, f, U2, hu, hf, hsub, hoff, hU2, hpos⟩ := fieldB_spec k1
    have hUt : tyOk P U f.type = true := by
      simp only [okI.tyOkF, hu, hf] at k2; exact k2
    simp only [core] at hc
    unfold fldI at hc
    split at hc <;> first | (exfalso; revert hc; simp; done) | skip
    rename_i t' y heq
    simp only [List.cons.injEq, and_true] at heq
    subst heq
    split at hc <;> first | (exfalso; revert hc; simp; done) | skip
    rename_i u hu1
    cases hb : Ty.beq t' T with
    | false => rw [hb] at hc; cases hc
    | true =>
      rw [hb] at hc
      obtain rfl := Ty.beq_eq _ _ hb
      obtain ⟨z, hz, he'⟩ := Option.map_eq_some_iff.1 hc
      simp only [Prod.mk.injEq] at he'
      obtain ⟨_, rfl, rfl⟩ := he'
      obtain ⟨ee, hx⟩ := castT_some hz
      obtain ⟨ut, ux⟩ := u
      simp only at ee hx
      subst ee; subst hx
      obtain ⟨cs, hv, hvx⟩ := h1
      obtain ⟨g1, g2⟩ := getP_den p _ _ _ hv _ hu1
      simp only at g1 g2
      have hag : t'.agg = true := by
        cases t' with
        | pair => rfl
        | unit => rfl
        | _ => cases p with
          | nil =>
            exfalso
            unfold tyOk at hT
            simp only [tk, Bool.and_eq_true, hu] at hT
            simp at hT
          | cons q p => simp [getP] at hu1
      have hax : a.eval x = .agg cs.toArray := by rw [hvx]; simp [packV, hag]
      have hpart := run_part (P := P) (w := w) hUt (cs := cs.toArray) (off := f.offset) (ds := (cs.drop (t'.off p)).take ut.sz) (by rw [hoff]) g2.length (fun hg => one_cell g2 hg)
      refine Does.same R (v := packV ut ((cs.drop (t'.off p)).take ut.sz)) ?_ ⟨_, g2, rfl⟩
      simp [execOp, ho, Instr.field, run_underlying hu, hf, hax, asAgg, hpart]
  | fadr T p =>
    simp only [okI] at h
    split at h <;> first | cases h | skip
    rename_i t x j ho
    simp only [Bool.and_eq_true] at h
    obtain ⟨s1, rfl, h1⟩ := all2_1 (xsB_den R h.2 he)
    cases s1 with
    | tup => simp [core, fadrI] at hc
    | d d =>
      obtain ⟨rfl, v', e1, e2⟩ := fadr_den h.1 h1 hc
      exact Does.same R (by simp [execOp, ho, e1]) e2
  | iadr e =>
    simp only [okI] at h
    split at h <;> first | cases h | skip
    rename_i t x y ho
    simp only [Bool.and_eq_true] at h
    obtain ⟨s1, s2, rfl, h1, h2⟩ := all2_2 (xsB_den R h.2 he)
    simp only [core] at hc
    unfold iadrI at hc
    split at hc <;> first | (exfalso; revert hc; simp; done) | skip
    rename_i d k n heq
    simp only [List.cons.injEq, and_true] at heq
    obtain ⟨rfl, rfl⟩ := heq
    obtain ⟨r, hr, he'⟩ := Option.map_eq_some_iff.1 hc
    obtain ⟨rc, rs⟩ := r
    simp only [Prod.mk.injEq] at he'
    obtain ⟨rfl, rfl, rfl⟩ := he'
    obtain ⟨v', e1, e2⟩ := idxI_den R h.1 (k := k) h1 hr hp
    exact Does.same R (by simp [execOp, ho, int_val h2, e1]) e2
  | ext j =>
    simp only [okI] at h
    split at h <;> first | cases h | skip
    rename_i x j' ho
    simp only [Bool.and_eq_true, Nat.beq_eq] at h
    obtain ⟨rfl, k2⟩ := h
    obtain ⟨s1, rfl, h1⟩ := all2_1 (xsB_den R k2 he)
    simp only [core] at hc
    unfold extI at hc
    split at hc <;> first | (exfalso; revert hc; simp; done) | skip
    rename_i ds heq
    simp only [List.cons.injEq, and_true] at heq
    subst heq
    split at hc <;> first | (exfalso; revert hc; simp; done) | skip
    rename_i d hd
    obtain ⟨_, rfl, rfl⟩ := outeq hc
    obtain ⟨vs, e1, e2⟩ := h1
    obtain ⟨v, e3, e4⟩ := e2.get _ _ hd
    exact Does.same R (v := v) (by simp [execOp, ho, Instr.extract, e1, e3]) e4
  | len =>
    simp only [okI] at h
    split at h <;> first | cases h | skip
    rename_i cl ho
    split at h <;> first | cases h | skip
    rename_i b hcal
    simp only [Bool.and_eq_true, decide_eq_true_eq] at h
    obtain ⟨⟨rfl, k2⟩, k3⟩ := h
    have hall := xsB_den R k3 he
    simp only [core] at hc
    unfold lenI at hc
    split at hc <;> first | (exfalso; revert hc; simp; done) | skip
    rename_i d
    obtain ⟨n, hn, he'⟩ := Option.map_eq_some_iff.1 hc
    simp only [Prod.mk.injEq] at he'
    obtain ⟨_, rfl, rfl⟩ := he'
    split at k2 <;> first | cases k2 | skip
    rename_i t ht
    split at k2 <;> first | cases k2 | skip
    rename_i u hu
    obtain ⟨s1, ss1, e1, h1, h2⟩ : ∃ v vs, cl.args.toList.map a.eval = v :: vs ∧ DDen X.ρ (okB X φ H w.heap.size) φ H w d v ∧ True := by
      revert hall
      cases cl.args.toList.map a.eval with
      | nil => intro h; exact h.elim
      | cons v vs => intro h; exact ⟨v, vs, rfl, h.1, trivial⟩
    obtain ⟨A, cc, hv⟩ := len_den R h1 hn
    have h0 : (cl.args.map a.eval)[0]? = some (.slice A n cc) := by
      rw [← Array.getElem?_toList, Array.toList_map, e1, hv]; rfl
    refine Does.same R (v := .int .i64 n) ?_ ⟨[_], rfl, rfl⟩
    have hb : (Builtin.len_ cl.argTypes o.type (cl.args.map a.eval)).run P w = .ok (.int .i64 n) w := by
      unfold Builtin.len_
      simp [ht, h0, run_underlying hu, goInt]
    simp [execOp, ho, resolve, hcal, invoke, builtin, hb]
  | cap =>
    simp only [core] at hc
    unfold capI at hc
    split at hc <;> first | (exfalso; revert hc; simp; done) | skip
    obtain ⟨_, rfl, rfl⟩ := outeq hc
    simp only [okI] at h
    split at h
    · rename_i cl ho
      split at h <;> first | cases h | skip
      rename_i b hcal
      simp only [Bool.and_eq_true, decide_eq_true_eq] at h
      obtain ⟨⟨rfl, k2⟩, k3⟩ := h
      have hall := xsB_den R k3 he
      split at k2 <;> first | cases k2 | skip
      rename_i t ht
      split at k2 <;> first | cases k2 | skip
      rename_i u hu
      obtain ⟨v, vs, e1, h1⟩ : ∃ v vs, cl.args.toList.map a.eval = v :: vs ∧ v = .slice none 0 0 := by
        revert hall
        cases cl.args.toList.map a.eval with
        | nil => intro h; exact h.elim
        | cons v vs => intro h; exact ⟨v, vs, rfl, h.1⟩
      have h0 : (cl.args.map a.eval)[0]? = some (.slice none 0 0) := by
        rw [← Array.getElem?_toList, Array.toList_map, e1, h1]; rfl
      refine Does.same R (v := .int .i64 0) ?_ ⟨[_], rfl, rfl⟩
      have hb : (Builtin.cap_ cl.argTypes o.type (cl.args.map a.eval)).run P w = .ok (.int .i64 0) w := by
        unfold Builtin.cap_
        simp [ht, h0, run_underlying hu, goInt]
      simp [execOp, ho, resolve, hcal, invoke, builtin, hb]
    · simp only [Nat.beq_eq] at h
      have : xs = [] := List.eq_nil_of_length_eq_zero h
      subst this
      simp [evXs] at he
  | app nm e lim =>
    simp only [okI] at h
    split at h <;> first | cases h | skip
    rename_i cl ho
    split at h <;> first | cases h | skip
    rename_i b t t' hcal hty
    simp only [Bool.and_eq_true, decide_eq_true_eq, Nat.beq_eq] at h
    obtain ⟨⟨⟨⟨rfl, rfl⟩, k3⟩, k4⟩, k5⟩ := h
    have hall := xsB_den R k5 he
    have hc2 := hc
    simp only [core] at hc2
    unfold appO at hc2
    split at hc2 <;> first | (exfalso; revert hc2; simp; done) | skip
    rename_i d x
    obtain ⟨vs, vx, e1, h1, h2⟩ : ∃ vs vx, cl.args.toList.map a.eval = [vs, vx] ∧ DDen X.ρ (okB X φ H w.heap.size) φ H w d vs ∧ DDen X.ρ (okB X φ H w.heap.size) φ H w x vx := by
      revert hall
      match cl.args.toList.map a.eval with
      | [] => intro h; exact h.elim
      | [_] => intro h; exact h.2.elim
      | [v1, v2] => intro h; exact ⟨v1, v2, rfl, h.1, h.2.1⟩
      | _ :: _ :: _ :: _ => intro h; exact h.2.2.elim
    obtain ⟨v', w', φ', r1, r2, r3, r4⟩ := app_den (ty := o.type) R k3 (limB_spec k4) h1 h2 hc hp
    have hat : cl.argTypes = #[t, t] := by apply Array.ext'; simpa using hty
    have har : cl.args.map a.eval = #[vs, vx] := by apply Array.ext'; rw [Array.toList_map]; exact e1
    exact ⟨v', w', φ', .inl (by simp [execOp, ho, resolve, hcal, invoke, builtin, hat, har, r1]), r2, r3, r4⟩
  | appz nm e lim =>
    simp only [okI] at h
    split at h <;> first | cases h | skip
    rename_i cl ho
    split at h <;> first | cases h | skip
    rename_i b t t' hcal hty
    simp only [Bool.and_eq_true, decide_eq_true_eq] at h
    obtain ⟨⟨⟨⟨rfl, k2⟩, k3⟩, k4⟩, k5⟩ := h
    split at k2 <;> first | cases k2 | skip
    rename_i kk hkk
    have hall := xsB_den R k5 he
    simp only [core] at hc
    unfold appzI at hc
    split at hc <;> first | (exfalso; revert hc; simp; done) | skip
    rename_i k n
    obtain ⟨hnm, rfl, rfl, rfl⟩ := newC_inv hc
    obtain ⟨vs, vx, e1, h1, h2⟩ : ∃ vs vx, cl.args.toList.map a.eval = [vs, vx] ∧ vs = .slice none 0 0 ∧ vx = .int k n := by
      revert hall
      match cl.args.toList.map a.eval with
      | [] => intro h; exact h.elim
      | [_] => intro h; exact h.2.elim
      | [v1, v2] => intro h; exact ⟨v1, v2, rfl, h.1, int_val h.2.1⟩
      | _ :: _ :: _ :: _ => intro h; exact h.2.2.elim
    have hat : cl.argTypes = #[t, t'] := by apply Array.ext'; simpa using hty
    have har : cl.args.map a.eval = #[.slice none 0 0, .int k n] := by apply Array.ext'; rw [Array.toList_map, e1, h1, h2]
    exact appz_den R k3 hkk (limB_spec k4) hnm hp (by simp [execOp, ho, resolve, hcal, invoke, builtin, hat, har]; rfl)
  | copy e =>
    simp only [okI] at h
    split at h <;> first | cases h | skip
    rename_i cl ho
    split at h <;> first | cases h | skip
    rename_i b t t' hcal hty
    simp only [Bool.and_eq_true, decide_eq_true_eq] at h
    obtain ⟨⟨rfl, k3⟩, k5⟩ := h
    have hall := xsB_den R k5 he
    have hc2 := hc
    simp only [core] at hc2
    unfold copyO at hc2
    split at hc2 <;> first | (exfalso; revert hc2; simp; done) | skip
    rename_i d x
    obtain ⟨vs, vx, e1, h1, h2⟩ : ∃ vs vx, cl.args.toList.map a.eval = [vs, vx] ∧ DDen X.ρ (okB X φ H w.heap.size) φ H w d vs ∧ DDen X.ρ (okB X φ H w.heap.size) φ H w x vx := by
      revert hall
      match cl.args.toList.map a.eval with
      | [] => intro h; exact h.elim
      | [_] => intro h; exact h.2.elim
      | [v1, v2] => intro h; exact ⟨v1, v2, rfl, h.1, h.2.1⟩
      | _ :: _ :: _ :: _ => intro h; exact h.2.2.elim
    obtain ⟨v', w', r1, r2, r3, r4⟩ := copyI_den (t2 := t') (ty := o.type) R k3 h1 h2 hc
    have hat : cl.argTypes = #[t, t'] := by apply Array.ext'; simpa using hty
    have har : cl.args.map a.eval = #[vs, vx] := by apply Array.ext'; rw [Array.toList_map]; exact e1
    exact ⟨v', w', φ, .inl (by simp [execOp, ho, resolve, hcal, invoke, builtin, hat, har, r1]), r2, r3, r4⟩
  | mm mx k =>
    simp only [okI] at h
    split at h <;> first | cases h | skip
    rename_i cl ho
    split at h <;> first | cases h | skip
    rename_i b hcal
    simp only [Bool.and_eq_true, decide_eq_true_eq] at h
    obtain ⟨rfl, k5⟩ := h
    have hall := xsB_den R k5 he
    simp only [core] at hc
    unfold mmO at hc
    split at hc <;> first | (exfalso; revert hc; simp; done) | skip
    rename_i k0 x ss'
    cases hb : Nat.beq (kc k0) (kc k) with
    | false => rw [hb] at hc; cases hc
    | true =>
      rw [hb] at hc
      obtain rfl := kc_inj (Nat.eq_of_beq_eq_true hb)
      obtain ⟨n, hn, he'⟩ := Option.map_eq_some_iff.1 hc
      simp only [Prod.mk.injEq] at he'
      obtain ⟨_, rfl, rfl⟩ := he'
      obtain ⟨v, vs, e1, h1, h2⟩ : ∃ v vs, cl.args.toList.map a.eval = v :: vs ∧ v = .int k0 x ∧ All2 (SDen X.ρ (okB X φ H w.heap.size) φ H w) ss' vs := by
        revert hall
        cases cl.args.toList.map a.eval with
        | nil => intro h; exact h.elim
        | cons v vs => intro h; exact ⟨v, vs, rfl, int_val h.1, h.2⟩
      have hfold := mm_den (P := P) (mx := mx) (k := k0) h2 hn
      have har : (cl.args.map a.eval).toList = .int k0 x :: vs := by rw [Array.toList_map, e1, h1]
      refine Does.same R (v := .int k0 n) ?_ ⟨[_], rfl, rfl⟩
      cases mx
      · have hb : (Builtin.min_ cl.argTypes o.type (cl.args.map a.eval)).run P w = .ok (.int k0 n) w := by
          unfold Builtin.min_; rw [har]; exact hfold
        simp [execOp, ho, resolve, hcal, invoke, builtin, hb]
      · have hb : (Builtin.max_ cl.argTypes o.type (cl.args.map a.eval)).run P w = .ok (.int k0 n) w := by
          unfold Builtin.max_; rw [har]; exact hfold
        simp [execOp, ho, resolve, hcal, invoke, builtin, hb]
  | call nm f rs io => simp [okI] at h
theorem op_does (R : Rel X φ tm H a w) {o : Oper} {i : In} {xs : List Pm.X} {ss : List S} {c : Chk} {s : S} {H' : Hp} (h : okI P X.ρ o.op xs i = true) (he : evXs tm xs = some ss) (hc : core H i ss = some (c, s, H')) (hp : c.p) :
    Does P X tm a w ((execOp a.eval o).run P w) s H' := by
  cases i with
  | loadi T =>
    refine op_does0 R (i := .load T) rfl h he ?_ hp
    revert hc
    simp only [core, loadiI]
    split
    · simp only [loadI, ldI, Option.map_map]; exact id
    · intro h; cases h
  | loadb T =>
    simp only [okI] at h
    split at h <;> first | cases h | skip
    rename_i t x a b ho
    have ho' : o.op = .load t x := by assumption
    simp only [evXs] at he
    split at he <;> first | (exfalso; revert he; simp; done) | skip
    rename_i sa sb h1 h2
    injection he with he; subst he
    refine op_does0 R (i := .load T) (xs := [a]) (ss := [sa]) rfl (by simp only [okI, ho']; exact h) (by simp only [evXs, h1]) ?_ hp
    simp only [core, loadbI] at hc
    split at hc <;> first | (exfalso; revert hc; simp; done) | skip
    rename_i n i p m i' p' hss
    simp only [List.cons.injEq] at hss
    obtain ⟨rfl, _⟩ := hss
    cases hb : Nat.beq n m with
    | false => rw [hb] at hc; cases hc
    | true =>
      rw [hb] at hc
      simp only [cond_true] at hc
      split at hc <;> first | (exfalso; revert hc; simp; done) | skip
      split at hc <;> first | (exfalso; revert hc; simp; done) | skip
      rename_i hl
      simp only [core, loadI, ldI, hl, Option.map_some]
      exact hc
  | storeb T =>
    simp only [okI] at h
    split at h <;> first | cases h | skip
    rename_i t x y a b rest ho
    have ho' : o.op = .store t x y := by assumption
    simp only [evXs] at he
    split at he <;> first | (exfalso; revert he; simp; done) | skip
    rename_i sa sr h1 h2
    injection he with he; subst he
    split at h2 <;> first | (exfalso; revert h2; simp; done) | skip
    rename_i sb es h3 h4
    injection h2 with h2; subst h2
    refine op_does0 R (i := .store T) (xs := [a, b]) (ss := [sa, sb]) rfl (by simp only [okI, ho']; exact h) (by simp only [evXs, h1, h3]) ?_ hp
    simp only [core, storebI] at hc
    split at hc <;> first | (exfalso; revert hc; simp; done) | skip
    rename_i n i p v es' hss
    simp only [List.cons.injEq] at hss
    obtain ⟨rfl, rfl, rfl⟩ := hss
    cases hb : es.all (S.other n) with
    | false => rw [hb] at hc; cases hc
    | true => rw [hb] at hc; exact hc
  | slicei e lo hi mx =>
    refine op_does0 R (i := .slice 0 .snap e lo hi mx) rfl h he ?_ hp
    simp only [core] at hc ⊢
    cases hd : ss.all S.dat with
    | true => rw [hd] at hc; exact hc
    | false => rw [hd] at hc; cases hc
  | bsli nm e len ix =>
    refine op_does0 R (i := .bsl nm e len ix) rfl h he ?_ hp
    simp only [core] at hc ⊢
    cases hd : ss.all S.dat with
    | true => rw [hd] at hc; exact hc
    | false => rw [hd] at hc; cases hc
  | _ => exact op_does0 R rfl h he hc hp
end
end Pm
end
section
/- Calls: what a function is given, what it gives back, and how that comes into its caller's memory. -/
namespace Pm
open Go Go.RowKit

def PDen (ρ : Nat → Option Nat) (ok : Nat → Prop) (w : World) (d : D) (v : Value) : Prop := DDen ρ ok (fun _ => undef) (fun _ => none) w d v
def D.isOwn : D → Bool
  | .own _ _ => true
  | _ => false
def ownVals : List D → List Value → List Value
  | d :: ds, u :: us => cond d.isOwn (u :: ownVals ds us) (ownVals ds us)
  | _, _ => []
def OwnApart : List D → List Value → Prop
  | d :: ds, u :: us => (d.isOwn = true → ∀ u' ∈ ownVals ds us, ∀ b, blk u = some b → blk u' ≠ some b) ∧ OwnApart ds us
  | _, _ => True
def okR (ok : Nat → Prop) (w w' : World) (rs : List D) (us : List Value) (b : Nat) : Prop :=
  (ok b ∨ w.heap.size ≤ b) ∧ b < w'.heap.size ∧ ∀ u ∈ ownVals rs us, blk u ≠ some b
def RDen (ok : Nat → Prop) (N : Nat) (w' : World) : D → Value → Prop
  | .val t x, u => VV ok w' t x u
  | .own e xs, u => ∃ T cs, w'.ownsRow 0 T e.sz u xs.length cs ∧ ElemsD ok w' e xs cs ∧ ∀ b, blk u = some b → N ≤ b
  | _, _ => False
def retV : List Value → Value
  | [u] => u
  | us => .tuple us.toArray
def ctxOf (ρ : Nat → Option Nat) (ok : Nat → Prop) (w : World) (wr : Nat → Prop) (v : Value) : Ctx := ⟨ρ, ok, w.heap.size, wr, fun _ => v⟩
structure CallsOk (P : Program) (ρ : Nat → Option Nat) (C : CallF) : Prop where
  plain : ∀ (g fid : Nat) (as rs : List D) (w : World) (vs : List Value) (ok : Nat → Prop), ρ fid = some g → C g as = some rs → (∀ b, ok b → b < w.heap.size) → All2 (PDen ρ ok w) as vs →
    Calls P fid vs.toArray w fun en w' => ∃ us, en = .returned (retV us) ∧ Fr (ctxOf ρ ok w (fun _ => False) undef) w w' ∧ All2 (RDen (okR ok w w' rs us) w.heap.size w') rs us ∧ OwnApart rs us
  io : ∀ (g fid : Nat) (e : Ty) (xs : List e.I) (rs : List D) (w : World) (v : Value) (ok : Nat → Prop), ρ fid = some g → C g [.own e xs] = some rs → (∀ b, ok b → b < w.heap.size ∧ blk v ≠ some b) → (∀ b, blk v = some b → b < w.heap.size) →
    (∃ T cs, w.ownsRow 0 T e.sz v xs.length cs ∧ ElemsD ok w e xs cs) →
    Calls P fid #[v] w fun en w' => ∃ xs' v', rs = [.own e xs'] ∧ en = .returned v' ∧ xs'.length = xs.length ∧ Fr (ctxOf ρ ok w (fun b => blk v = some b) v) w w' ∧ ∃ T cs, w'.ownsRow 0 T e.sz v xs'.length cs ∧ ElemsD (fun b => (ok b ∨ w.heap.size ≤ b) ∧ b < w'.heap.size ∧ blk v ≠ some b) w' e xs' cs

section
variable {P : Program} {X : Ctx} {φ : Nat → Value} {tm : List S} {H : Hp} {a : Act} {w : World}

/-- Data without slices lead nowhere. -/
theorem VDen.free {ok ok' : Nat → Prop} {w w' : World} : ∀ {t : Ty} {x : t.I} {cs : List Value}, t.hasSl = false → VDen ok w t x cs → VDen ok' w' t x cs
  | .int _, _, _, _, h => h
  | .bool, _, _, _, h => h
  | .str, _, _, _, h => h
  | .unit, _, _, _, h => h
  | .pair a b, _, _, hs, ⟨c1, c2, e, p, q⟩ => by
    simp only [Ty.hasSl, Bool.or_eq_false_iff] at hs
    exact ⟨c1, c2, e, p.free hs.1, q.free hs.2⟩
  | .sl e, _, _, hs, _ => by simp [Ty.hasSl] at hs
theorem ElemsD.free {ok ok' : Nat → Prop} {w w' : World} {e : Ty} {xs : List e.I} {cs : List Value} (h : e.hasSl = false) (he : ElemsD ok w e xs cs) : ElemsD ok' w' e xs cs := fun i hi => (he i hi).free h

theorem decs_len : ∀ {rts : List RT} {rs : List D} {r : RI rts}, decs rts rs = some r → rs.length = rts.length
  | [], [], _, _ => rfl
  | [_], [_], _, _ => rfl
  | _ :: s :: rts, d :: ds, r, h => by
    simp only [decs] at h
    split at h
    · rename_i x y h1 h2
      simp [decs_len h2]
    · cases h
  | [], _ :: _, _, h => by simp [decs] at h
  | [_], [], _, h => by simp [decs] at h
  | [_], _ :: _ :: _, _, h => by simp [decs] at h
  | _ :: _ :: _, [], _, h => by simp [decs] at h
def impD (n : Nat) : D → D
  | .own _ _ => .ref n
  | d => d
def Ob.ofD : D → Option Ob
  | .own e xs => some (.arr e xs .lv)
  | _ => none
theorem put1_spec {nm : Nat} {rt : RT} {d : D} {x : rt.I} {H' : Hp} (h : dec1 rt d = some x) (hp : put1 nm H rt x = some H') :
    (∀ n, n ≠ nm → H' n = H n) ∧ ((d.isOwn = false ∧ H' nm = H nm) ∨ (d.isOwn = true ∧ H nm = none ∧ H' nm = Ob.ofD d)) ∧ imp1 nm rt x = impD nm d := by
  cases rt with
  | v t =>
    cases d with
    | val t' y =>
      obtain ⟨e, he⟩ := castT_some h
      subst e; subst he
      simp only [put1, Option.some.injEq] at hp
      subst hp
      exact ⟨fun _ _ => rfl, .inl ⟨rfl, rfl⟩, rfl⟩
    | _ => simp [dec1] at h
  | o e =>
    cases d with
    | own e' ys =>
      obtain ⟨ee, he⟩ := castT_some h
      injection ee with ee
      subst ee
      simp only at he
      subst he
      simp only [put1] at hp
      split at hp
      · rename_i hn
        simp only [Option.some.injEq] at hp
        subst hp
        exact ⟨fun n hne => upd_ne hne, .inr ⟨rfl, hn, upd_same _ _ _⟩, rfl⟩
      · cases hp
    | _ => simp [dec1] at h
theorem puts_spec : ∀ {rts : List RT} {rs : List D} {r : RI rts} {nm : Nat} {H H' : Hp}, decs rts rs = some r → puts nm H rts r = some H' →
    (∀ n, n < nm → H' n = H n) ∧ (∀ n, nm + rs.length ≤ n → H' n = H n) ∧
    (∀ i d, rs[i]? = some d → ((d.isOwn = false ∧ H' (nm + i) = H (nm + i)) ∨ (d.isOwn = true ∧ H (nm + i) = none ∧ H' (nm + i) = Ob.ofD d)) ∧ (imps nm rts r)[i]? = some (impD (nm + i) d)) ∧ (imps nm rts r).length = rs.length
  | [], [], r, nm, H, H', _, hp => by
    simp only [puts, Option.some.injEq] at hp
    subst hp
    exact ⟨fun _ _ => rfl, fun _ _ => rfl, fun i d h => by simp at h, rfl⟩
  | [rt], [d], r, nm, H, H', h, hp => by
    obtain ⟨h1, h2, h3⟩ := put1_spec (rt := rt) (d := d) (x := r) h hp
    refine ⟨fun n hn => h1 n (by omega), fun n hn => h1 n (by simp at hn; omega), fun i d' hi => ?_, rfl⟩
    cases i with
    | zero => simp at hi; subst hi; exact ⟨h2, by simp [imps, h3]⟩
    | succ i => simp at hi
  | rt :: s :: rts, d :: ds, r, nm, H, H', h, hp => by
    simp only [decs] at h
    split at h
    · rename_i x y k1 k2
      injection h with h; subst h
      simp only [puts] at hp
      split at hp
      · rename_i H1 hp1
        obtain ⟨h1, h2, h3⟩ := put1_spec (rt := rt) (d := d) (x := x) k1 hp1
        obtain ⟨g1, g2, g3, g4⟩ := puts_spec (rts := s :: rts) k2 hp
        refine ⟨fun n hn => (g1 n (by omega)).trans (h1 n (by omega)), fun n hn => (g2 n (by simp at hn; omega)).trans (h1 n (by simp at hn; omega)), fun i d' hi => ?_, by simp [imps, g4]⟩
        cases i with
        | zero =>
          simp at hi; subst hi
          refine ⟨?_, by simp [imps, h3]⟩
          rw [Nat.add_zero, g1 nm (by omega)]
          exact h2
        | succ i =>
          simp at hi
          obtain ⟨a1, a2⟩ := g3 i d' hi
          rw [show nm + 1 + i = nm + (i + 1) from by omega] at a1 a2
          rw [h1 (nm + (i + 1)) (by omega)] at a1
          exact ⟨a1, by simpa [imps] using a2⟩
      · cases hp
    · cases h
  | [], _ :: _, _, _, _, _, h, _ => by simp [decs] at h
  | [_], [], _, _, _, _, h, _ => by simp [decs] at h
  | [_], _ :: _ :: _, _, _, _, _, h, _ => by simp [decs] at h
  | _ :: _ :: _, [], _, _, _, _, h, _ => by simp [decs] at h

theorem ownVals_mem : ∀ {rs : List D} {us : List Value} {i : Nat} {d : D} {u : Value}, rs[i]? = some d → us[i]? = some u → d.isOwn = true → u ∈ ownVals rs us
  | d :: ds, u :: us, 0, d', u', h1, h2, h3 => by
    simp at h1 h2; subst h1; subst h2
    simp [ownVals, h3]
  | d :: ds, u :: us, i + 1, d', u', h1, h2, h3 => by
    simp at h1 h2
    have := ownVals_mem h1 h2 h3
    cases hd : d.isOwn <;> simp [ownVals, hd, this]
  | [], _, _, _, _, h1, _, _ => by simp at h1
  | _ :: _, [], _, _, _, _, h2, _ => by simp at h2
theorem OwnApart.get : ∀ {rs : List D} {us : List Value}, OwnApart rs us → ∀ {i j : Nat} {d d' : D} {u u' : Value}, i < j → rs[i]? = some d → us[i]? = some u → rs[j]? = some d' → us[j]? = some u' → d.isOwn = true → d'.isOwn = true → ∀ b, blk u = some b → blk u' ≠ some b
  | d :: ds, u :: us, ⟨h, _⟩, 0, j + 1, d1, d2, u1, u2, _, h1, h2, h3, h4, h5, h6 => by
    simp at h1 h2 h3 h4; subst h1; subst h2
    exact h h5 u2 (ownVals_mem h3 h4 h6)
  | d :: ds, u :: us, ⟨_, h⟩, i + 1, j + 1, d1, d2, u1, u2, hij, h1, h2, h3, h4, h5, h6 => by
    simp at h1 h2 h3 h4
    exact h.get (by omega) h1 h2 h3 h4 h5 h6
  | [], _, _, _, _, _, _, _, _, _, h1, _, _, _, _, _ => by simp at h1
  | _ :: _, [], _, _, _, _, _, _, _, _, _, h2, _, _, _, _ => by simp at h2
  | _ :: _, _ :: _, _, _, 0, _, _, _, _, hij, _, _, _, _, _, _ => by omega

theorem dec1_ty {rt : RT} {d : D} {x : rt.I} (h : dec1 rt d = some x) : (∃ e xs, d = .own e xs ∧ rt = .o e) ∨ ∃ t y, d = .val t y ∧ rt = .v t := by
  cases rt with
  | v t =>
    cases d with
    | val t' y =>
      obtain ⟨e, _⟩ := castT_some h
      subst e
      exact .inr ⟨_, _, rfl, rfl⟩
    | _ => simp [dec1] at h
  | o e =>
    cases d with
    | own e' ys =>
      obtain ⟨ee, _⟩ := castT_some h
      injection ee with ee
      subst ee
      exact .inl ⟨_, _, rfl, rfl⟩
    | _ => simp [dec1] at h
theorem decs_ty : ∀ {rts : List RT} {rs : List D} {r : RI rts}, decs rts rs = some r → ∀ (i : Nat) (d : D), rs[i]? = some d → ∃ rt : RT, rts[i]? = some rt ∧ ((∃ e xs, d = .own e xs ∧ rt = .o e) ∨ ∃ t y, d = .val t y ∧ rt = .v t)
  | [], [], _, _, i, d, h => by simp at h
  | [rt], [d], r, h, i, d', hi => by
    cases i with
    | zero => simp at hi; subst hi; exact ⟨rt, rfl, dec1_ty (x := r) h⟩
    | succ i => simp at hi
  | rt :: s :: rts, d :: ds, r, h, i, d', hi => by
    simp only [decs] at h
    split at h
    · rename_i x y k1 k2
      cases i with
      | zero => simp at hi; subst hi; exact ⟨rt, rfl, dec1_ty k1⟩
      | succ i =>
        obtain ⟨rt', a1, a2⟩ := decs_ty (rts := s :: rts) k2 i d' (by simpa using hi)
        exact ⟨rt', by simpa using a1, a2⟩
    · cases h
  | [], _ :: _, _, h, _, _, _ => by simp [decs] at h
  | [_], [], _, h, _, _, _ => by simp [decs] at h
  | [_], _ :: _ :: _, _, h, _, _, _ => by simp [decs] at h
  | _ :: _ :: _, [], _, h, _, _, _ => by simp [decs] at h
theorem All2.get2 {α β : Type} {p : α → β → Prop} {l : List α} {m : List β} (h : All2 p l m) {i : Nat} {a : α} {b : β} (h1 : l[i]? = some a) (h2 : m[i]? = some b) : p a b := by
  obtain ⟨b', h3, h4⟩ := h.get i a h1
  rw [h2] at h3; injection h3 with h3; subst h3; exact h4
theorem All2.of {α β : Type} {p : α → β → Prop} : ∀ {l : List α} {m : List β}, l.length = m.length → (∀ (i : Nat) (a : α) (b : β), l[i]? = some a → m[i]? = some b → p a b) → All2 p l m
  | [], [], _, _ => trivial
  | a :: l, b :: m, hl, h => ⟨h 0 a b rfl rfl, All2.of (by simpa using hl) fun i x y h1 h2 => h (i + 1) x y (by simpa using h1) (by simpa using h2)⟩
  | [], _ :: _, hl, _ => by simp at hl
  | _ :: _, [], hl, _ => by simp at hl
/-- Results come into the caller's memory. -/
theorem Rel.imp {w' : World} (R : Rel X φ tm H a w) {rts : List RT} {rs : List D} {r : RI rts} {nm : Nat} {H' : Hp} {us : List Value} {wr : Nat → Prop} {v : Value} {ok ok2 : Nat → Prop} (hd : decs rts rs = some r) (hp : puts nm H rts r = some H')
    (hf : Fr (ctxOf X.ρ ok w wr v) w w') (hwr : ∀ b, ¬ wr b) (hr : All2 (RDen ok2 w.heap.size w') rs us) (hap : OwnApart rs us)
    (hm : (∀ b, ok2 b → okR (okB X φ H w.heap.size) w w' rs us b) ∨ rts.any RT.sl = false) :
    ∃ φ', Rel X φ' tm H' a w' ∧ SDen X.ρ (okB X φ' H' w'.heap.size) φ' H' w' (retS (imps nm rts r)) (retV us) := by
  obtain ⟨p1, p2, p3, p4⟩ := puts_spec hd hp
  have hlen := hr.length
  have hty := decs_ty hd
  -- what the machine's blocks do
  have hblk : ∀ b, b < w.heap.size → w'.heap[b]? = w.heap[b]? := fun b hb => hf.block b hb (hwr b)
  let φ' : Nat → Value := fun n => match H n with
    | some _ => φ n
    | none => if nm ≤ n then us.getD (n - nm) undef else φ n
  have hφ1 : ∀ n o, H n = some o → φ' n = φ n := fun n o h => by simp only [φ', h]
  have hφ2 : ∀ i u, us[i]? = some u → H (nm + i) = none → φ' (nm + i) = u := fun i u h1 h2 => by
    simp only [φ', h2]
    rw [if_pos (by omega), Nat.add_sub_cancel_left]
    simp [List.getD_eq_getElem?_getD, h1]
  -- the objects behind
  have hcls : ∀ n o, H' n = some o → H n = some o ∨ (H n = none ∧ ∃ i e xs u, n = nm + i ∧ rs[i]? = some (.own e xs) ∧ us[i]? = some u ∧ o = .arr e xs .lv ∧ φ' n = u) := by
    intro n o h
    by_cases h1 : n < nm
    · rw [p1 n h1] at h; exact .inl h
    · by_cases h2 : nm + rs.length ≤ n
      · rw [p2 n h2] at h; exact .inl h
      · obtain ⟨i, rfl⟩ : ∃ i, n = nm + i := ⟨n - nm, by omega⟩
        obtain ⟨d, hdd⟩ : ∃ d, rs[i]? = some d := ⟨rs[i]'(by omega), List.getElem?_eq_getElem _⟩
        rcases (p3 i d hdd).1 with ⟨_, h3⟩ | ⟨h3, h4, h5⟩
        · rw [h3] at h; exact .inl h
        · obtain ⟨u, hu, _⟩ := hr.get i d hdd
          cases d with
          | own e xs =>
            rw [h5] at h
            simp only [Ob.ofD, Option.some.injEq] at h
            exact .inr ⟨h4, i, e, xs, u, rfl, hdd, hu, h.symm, hφ2 i u hu h4⟩
          | _ => simp [D.isOwn] at h3
  have hmap : ∀ n o, H n = some o → φ' n = φ n ∧ ∃ o', H' n = some o' ∧ Sim o o' := by
    intro n o h
    refine ⟨hφ1 n o h, o, ?_, Sim.refl o⟩
    by_cases h1 : n < nm
    · rw [p1 n h1]; exact h
    · by_cases h2 : nm + rs.length ≤ n
      · rw [p2 n h2]; exact h
      · obtain ⟨i, rfl⟩ : ∃ i, n = nm + i := ⟨n - nm, by omega⟩
        obtain ⟨d, hdd⟩ : ∃ d, rs[i]? = some d := ⟨rs[i]'(by omega), List.getElem?_eq_getElem _⟩
        rcases (p3 i d hdd).1 with ⟨_, h3⟩ | ⟨h3, h4, h5⟩
        · rw [h3]; exact h
        · rw [h4] at h; cases h
  have hnew : ∀ {i : Nat} {e : Ty} {xs : List e.I} {u : Value}, rs[i]? = some (.own e xs) → us[i]? = some u → ∀ b, blk u = some b → w.heap.size ≤ b := fun h1 h2 => by
    obtain ⟨T, cs, _, _, h3⟩ := hr.get2 h1 h2; exact h3
  have hok : ∀ b, okB X φ H w.heap.size b → okB X φ' H' w'.heap.size b := fun b hb => by
    refine ⟨hb.1, Nat.lt_of_lt_of_le hb.2.1 hf.size, fun n o hn hl he => ?_⟩
    rcases hcls n o hn with h | ⟨_, i, e, xs, u, rfl, h1, h2, rfl, h4⟩
    · rw [hφ1 n o h] at he; exact hb.2.2 n o h hl he
    · rw [h4] at he; have := hnew h1 h2 b he; have := hb.2.1; omega
  have hokR : ∀ b, okR (okB X φ H w.heap.size) w w' rs us b → okB X φ' H' w'.heap.size b := fun b hb => by
    obtain ⟨h1, h2, h3⟩ := hb
    refine ⟨?_, h2, fun n o hn hl he => ?_⟩
    · rcases h1 with h1 | h1
      · exact h1.1
      · have := R.bnd; exact .inr (by omega)
    · rcases hcls n o hn with h | ⟨_, i, e, xs, u, rfl, g1, g2, rfl, g4⟩
      · rw [hφ1 n o h] at he
        rcases h1 with h1 | h1
        · exact h1.2.2 n o h hl he
        · have := blk_lt R h (by cases o <;> simp_all [Ob.live, Ob.isDead]) he; omega
      · rw [g4] at he; exact h3 u (ownVals_mem g1 g2 rfl) he
  have helem : ∀ {i : Nat} {e : Ty} {xs : List e.I} {cs : List Value}, rs[i]? = some (.own e xs) → ElemsD ok2 w' e xs cs → ElemsD (okB X φ' H' w'.heap.size) w' e xs cs := by
    intro i e xs cs h1 h2
    rcases hm with hm | hm
    · exact fun i hi => (h2 i hi).mono (fun b hb => hokR b (hm b hb)) (fun _ _ => rfl)
    · obtain ⟨rt, g1, g2⟩ := hty i _ h1
      have hs : e.hasSl = false := by
        rcases g2 with ⟨e', xs', h3, rfl⟩ | ⟨t, y, h3, _⟩
        · cases h3
          have := List.any_eq_false.1 hm (.o e) (List.mem_of_getElem? g1)
          simpa [RT.sl] using this
        · cases h3
      exact h2.free hs
  have hval : ∀ {i : Nat} {t : Ty} {x : t.I} {u : Value}, rs[i]? = some (.val t x) → VV ok2 w' t x u → VV (okB X φ' H' w'.heap.size) w' t x u := by
    rintro i t x u h1 ⟨cs, h2, rfl⟩
    rcases hm with hm | hm
    · exact ⟨cs, h2.mono (fun b hb => hokR b (hm b hb)) (fun _ _ => rfl), rfl⟩
    · obtain ⟨rt, g1, g2⟩ := hty i _ h1
      have hs : t.hasSl = false := by
        rcases g2 with ⟨e', xs', h3, rfl⟩ | ⟨t, y, h3, rfl⟩
        · cases h3
        · cases h3
          have := List.any_eq_false.1 hm (.v t) (List.mem_of_getElem? g1)
          simpa [RT.sl] using this
      exact ⟨cs, h2.free hs, rfl⟩
  refine ⟨φ', R.step hf.size hmap (fun b hb => hblk b hb.2.1) hok (fun n o hn => ?_) (fun n o b hn hdd hb => ?_) (fun n m o o' b hne hn hm' hl hdd hb => ?_) (fun n o hn ho => ?_), ?_⟩
  · rcases hcls n o hn with h | ⟨h0, i, e, xs, u, rfl, h1, h2, rfl, h4⟩
    · exact .inl ⟨o, h, Body.refl _, fun hdd b hb => hblk b (blk_lt R h hdd hb)⟩
    · obtain ⟨T, cs, g1, g2, g3⟩ := hr.get2 h1 h2
      exact .inr ⟨T, cs, by rw [h4]; exact g1, helem h1 g2⟩
  · rcases hcls n o hn with h | ⟨h0, i, e, xs, u, rfl, h1, h2, rfl, h4⟩
    · rw [hφ1 n o h] at hb; exact R.mine n o b h hdd hb
    · rw [h4] at hb
      have := hnew h1 h2 b hb
      have := R.bnd
      simp [Ob.isIo]; omega
  · rcases hcls n o hn with h | ⟨h0, i, e, xs, u, rfl, h1, h2, rfl, h4⟩
    · rcases hcls m o' hm' with k | ⟨k0, j, e', ys, u', rfl, k1, k2, rfl, k4⟩
      · rw [hφ1 n o h] at hb; rw [hφ1 m o' k]; exact R.apart n m o o' b hne h k hl hdd hb
      · rw [hφ1 n o h] at hb; rw [k4]
        intro hb2
        have := blk_lt R h (by cases o <;> simp_all [Ob.live, Ob.isDead]) hb
        have := hnew k1 k2 b hb2; omega
    · rw [h4] at hb
      rcases hcls m o' hm' with k | ⟨k0, j, e', ys, u', rfl, k1, k2, rfl, k4⟩
      · rw [hφ1 m o' k]
        intro hb2
        have := blk_lt R k hdd hb2
        have := hnew h1 h2 b hb; omega
      · rw [k4]
        rcases Nat.lt_or_ge i j with hij | hij
        · exact hap.get hij h1 h2 k1 k2 rfl rfl b hb
        · intro hb2
          have hji : j < i := by omega
          exact hap.get hji k1 k2 h1 h2 rfl rfl b hb2 hb
  · rcases hcls n o hn with h | ⟨h0, i, e, xs, u, rfl, h1, h2, rfl, h4⟩
    · rw [hφ1 n o h]; exact R.iov n o h ho
    · simp [Ob.isIo] at ho
  · have hds : All2 (DDen X.ρ (okB X φ' H' w'.heap.size) φ' H' w') (imps nm rts r) us := by
      refine All2.of (by rw [p4, hlen]) fun i d u h1 h2 => ?_
      have hi : i < rs.length := by
        rcases Nat.lt_or_ge i rs.length with h | h
        · exact h
        · rw [List.getElem?_eq_none (by omega)] at h1; cases h1
      obtain ⟨d0, hd0⟩ : ∃ d, rs[i]? = some d := ⟨rs[i]'hi, List.getElem?_eq_getElem _⟩
      obtain ⟨q1, q2⟩ := p3 i d0 hd0
      rw [q2] at h1; injection h1 with h1; subst h1
      have hrd := hr.get2 hd0 h2
      cases d0 with
      | own e xs =>
        rcases q1 with ⟨q, _⟩ | ⟨_, q3, q4⟩
        · simp [D.isOwn] at q
        · obtain ⟨T, cs, g1, g2, g3⟩ := hrd
          refine ⟨(hφ2 i u h2 q3).symm, ?_, _, q4, rfl⟩
          rcases g1.2 with ⟨h, _⟩ | ⟨g, cap, cur, hv, _⟩
          · rw [h]; rfl
          · rw [hv]; rfl
      | val t x => exact hval hd0 hrd
      | _ => exact hrd.elim
    match hi : imps nm rts r, us, hds with
    | [], [], _ => exact ⟨[], rfl, trivial⟩
    | [d], [u], h => exact h.1
    | d :: d2 :: ds, u :: u2 :: us', h => exact ⟨_, rfl, h⟩
end
end Pm
end
section
/- Arguments, and an operation that calls. -/
namespace Pm
open Go Go.RowKit

section
variable {P : Program} {X : Ctx} {φ : Nat → Value} {tm : List S} {H : Hp} {a : Act} {w : World}

theorem okB_lt {N b : Nat} (h : okB X φ H N b) : b < N := h.2.1
theorem rowA (R : Rel X φ tm H a w) {n : Nat} {e : Ty} {xs : List e.I} {l : Lv} (hn : H n = some (.arr e xs l)) : VV (fun b => b < w.heap.size) w (.sl e) xs (φ n) := by
  obtain ⟨T, cs, hr, he⟩ := R.obs n _ hn
  obtain ⟨A, c, h1, h2, h3⟩ := own_rows (ok := fun b => b < w.heap.size) hr (fun i hi => (he i hi).mono (fun _ h => h.2.1) (fun _ _ => rfl)) (fun b hb => blk_lt R hn rfl hb)
  exact ⟨[φ n], ⟨A, c, by rw [h1], h2, h3⟩, rfl⟩
theorem snapA (R : Rel X φ tm H a w) {t : Ty} {d : D} {x : t.I} {v : Value} (hd : DDen X.ρ (okB X φ H w.heap.size) φ H w d v) (hs : snap H t d = some x) : VV (fun b => b < w.heap.size) w t x v := by
  cases d with
  | ref n =>
    have key : ∀ (e : Ty) (xs : List e.I) (l : Lv), H n = some (.arr e xs l) → castT (.sl e) t xs = some x → VV (fun b => b < w.heap.size) w t x v := by
      intro e xs l hf hc
      obtain ⟨e', h⟩ := castT_some hc
      subst e'; subst h
      rw [hd.1]; exact rowA R hf
    simp only [snap] at hs
    cases ho : H n with
    | none => rw [ho] at hs; cases hs
    | some o =>
      rw [ho] at hs
      cases o with
      | arr e xs l =>
        cases l with
        | fr => exact key e xs _ ho hs
        | lv => exact key e xs _ ho hs
        | io => cases hs
      | box => cases hs
      | dead => cases hs
  | _ =>
    have := snap_den R hd hs
    rw [frz_id (by intro n; simp)] at this
    exact this.mono (fun _ h => h.2.1) (fun _ _ => rfl)
theorem boxA (R : Rel X φ tm H a w) {n : Nat} {t : Ty} {d : D} {x : t.I} (hn : H n = some (.box t d)) (hs : snap H t d = some x) : IDen (fun b => b < w.heap.size) w t x (φ n) := by
  obtain ⟨hc, b, T, cs, v, h1, h2, h3, h4, h5⟩ := R.obs n _ hn
  obtain ⟨cs', e1, e2⟩ := snapA R h3 hs
  have h6 := packV_cells e1
  rw [← e2, h4] at h6
  have : cs = cs' := by simpa using congrArg Array.toList h6
  subst this
  refine ⟨⟨b, 0, none⟩, cs, h1, e1, fun j u hj => ?_, fun _ => (Array.getElem?_eq_some_iff.1 h2).1⟩
  rw [add_lit, Nat.zero_add, cell_of_row w b j _ T (0, 0) h2]
  simpa using hj
theorem capA (R : Rel X φ tm H a w) : ∀ {caps : List Nat} {l : List TV}, argD.capI H caps = some l → All2 (fun (y : TV) u => IDen (fun b => b < w.heap.size) w y.t y.x u) l (caps.map φ)
  | [], l, h => by simp [argD.capI] at h; subst h; trivial
  | n :: ns, l, h => by
    simp only [argD.capI] at h
    split at h <;> first | (exfalso; revert h; simp; done) | skip
    rename_i t d hn
    split at h <;> first | (exfalso; revert h; simp; done) | skip
    rename_i x l' h1 h2
    injection h with h; subst h
    exact ⟨boxA R hn h1, capA R h2⟩
theorem argA (R : Rel X φ tm H a w) {d d' : D} {v : Value} (hd : DDen X.ρ (okB X φ H w.heap.size) φ H w d v) (h : argD H d = some d') : PDen X.ρ (fun b => b < w.heap.size) w d' v := by
  cases d with
  | val t x => injection h with h; subst h; exact VV.mono (fun _ h => h.2.1) (fun _ _ => rfl) hd
  | nil => injection h with h; subst h; exact hd
  | fsl e xs =>
    injection h with h; subst h
    obtain ⟨A, h1, h2⟩ := hd
    exact ⟨[v], ⟨A, xs.length, by rw [h1], ⟨Nat.le_refl _, rows_nil h2⟩, h2.mono (fun _ h => h.2.1) (fun _ _ => rfl)⟩, rfl⟩
  | nn e xs =>
    injection h with h; subst h
    obtain ⟨A, c, h1, hl, h2⟩ := hd
    exact ⟨[v], ⟨some A, c, by rw [h1], ⟨hl, fun h => by cases h⟩, h2.mono (fun _ h => h.2.1) (fun _ _ => rfl)⟩, rfl⟩
  | ref n =>
    simp only [argD] at h
    cases ho : H n with
    | none => rw [ho] at h; cases h
    | some o =>
      rw [ho] at h
      cases o with
      | arr e xs l =>
        cases l with
        | fr => injection h with h; subst h; show VV _ _ _ _ _; rw [hd.1]; exact rowA R ho
        | lv => injection h with h; subst h; show VV _ _ _ _ _; rw [hd.1]; exact rowA R ho
        | io => cases h
      | box => cases h
      | dead => cases h
  | ptr n i p =>
    cases i with
    | succ => simp [argD] at h
    | zero =>
      cases p with
      | cons => simp [argD] at h
      | nil =>
        simp only [argD] at h
        split at h <;> first | (exfalso; revert h; simp; done) | skip
        rename_i t d0 hn
        obtain ⟨x, hx, rfl⟩ := Option.map_eq_some_iff.1 h
        obtain ⟨o, ho, hp⟩ := hd
        rw [hn] at ho; injection ho with ho; subst ho
        obtain ⟨_, b, hb, hv⟩ := hp
        have := boxA R hn hx
        obtain ⟨_, g, T, cs, v0, h1, _⟩ := R.obs n _ hn
        rw [h1] at hb; injection hb with hb; subst hb
        show IDen _ _ _ _ _
        rw [hv, off_nil, ← h1]; exact this
  | iptr t x => injection h with h; subst h; exact IDen.mono (fun _ h => h.2.1) (fun _ _ => rfl) hd
  | clo f caps =>
    obtain ⟨l, hl, rfl⟩ := Option.map_eq_some_iff.1 h
    obtain ⟨fid, h1, h2, _⟩ := hd
    exact ⟨fid, _, h1, h2, capA R hl⟩
  | cloi f l =>
    injection h with h; subst h
    obtain ⟨fid, vs, h1, h2, h3⟩ := hd
    exact ⟨fid, vs, h1, h2, h3.imp fun _ _ => IDen.mono (fun _ h => h.2.1) (fun _ _ => rfl)⟩
  | _ => simp [argD] at h
theorem argsA (R : Rel X φ tm H a w) : ∀ {ss : List S} {vs : List Value} {as : List D}, All2 (SDen X.ρ (okB X φ H w.heap.size) φ H w) ss vs → argDs H ss = some as → All2 (PDen X.ρ (fun b => b < w.heap.size) w) as vs
  | [], [], as, _, h => by simp [argDs] at h; subst h; trivial
  | .d d :: ss, v :: vs, as, ⟨h1, h2⟩, h => by
    simp only [argDs] at h
    split at h <;> first | (exfalso; revert h; simp; done) | skip
    rename_i x xs k1 k2
    injection h with h; subst h
    exact ⟨argA R h1 k1, argsA R h2 k2⟩
  | .tup _ :: _, _ :: _, _, _, h => by simp [argDs] at h
  | [], _ :: _, _, h, _ => h.elim
  | _ :: _, [], _, h, _ => h.elim
theorem argD_fz {H H' : Hp} (hf : Fz H H') {d d' : D} (hp : S.plain (.d d) = true) (h : argD H d = some d') : argD H' d = some d' := by
  cases d with
  | ref n =>
    simp only [argD] at h ⊢
    rcases hf n with e | ⟨e, xs, h1, h2⟩
    · rw [e]; exact h
    · rw [h1] at h; rw [h2]; exact h
  | ptr => simp [S.plain] at hp
  | clo => simp [S.plain] at hp
  | _ => exact h
theorem argB (R : Rel X φ tm H a w) {d d' : D} {v : Value} (hp : S.plain (.d d) = true) (hd : DDen X.ρ (okB X φ H w.heap.size) φ H w d v) (h : argD H d = some d') : PDen X.ρ (okB X φ (frz H d) w.heap.size) w d' v := by
  have same : (∀ n, d ≠ .ref n) → frz H d = H := frz_id
  cases d with
  | val t x => injection h with h; subst h; exact hd
  | nil => injection h with h; subst h; exact hd
  | fsl e xs =>
    injection h with h; subst h
    obtain ⟨A, h1, h2⟩ := hd
    exact ⟨[v], ⟨A, xs.length, by rw [h1], ⟨Nat.le_refl _, rows_nil h2⟩, h2⟩, rfl⟩
  | nn e xs =>
    injection h with h; subst h
    obtain ⟨A, c, h1, hl, h2⟩ := hd
    exact ⟨[v], ⟨some A, c, by rw [h1], ⟨hl, fun h => by cases h⟩, h2⟩, rfl⟩
  | ref n =>
    simp only [argD] at h
    cases ho : H n with
    | none => rw [ho] at h; cases h
    | some o =>
      rw [ho] at h
      cases o with
      | arr e xs l =>
        cases l with
        | fr => injection h with h; subst h; exact snap_den R hd (t := .sl e) (by simp [snap, ho, castT_self])
        | lv => injection h with h; subst h; exact snap_den R hd (t := .sl e) (by simp [snap, ho, castT_self])
        | io => cases h
      | box => cases h
      | dead => cases h
  | ptr => simp [S.plain] at hp
  | clo => simp [S.plain] at hp
  | iptr => simp [S.plain] at hp
  | cloi => simp [S.plain] at hp
  | _ => simp [argD] at h
theorem argDs_fz {H H' : Hp} (hf : Fz H H') : ∀ {ss : List S} {as : List D}, ss.all S.plain = true → argDs H ss = some as → argDs H' ss = some as
  | [], as, _, h => h
  | .d d :: ss, as, hp, h => by
    simp only [List.all_cons, Bool.and_eq_true] at hp
    simp only [argDs] at h ⊢
    split at h <;> first | (exfalso; revert h; simp; done) | skip
    rename_i x xs k1 k2
    rw [argD_fz hf hp.1 k1, argDs_fz hf hp.2 k2]
    exact h
  | .tup _ :: _, _, _, h => by simp [argDs] at h
theorem PDen.mono {ρ : Nat → Option Nat} {ok ok' : Nat → Prop} {d : D} {v : Value} (h1 : ∀ b, ok b → ok' b) (h : PDen ρ ok w d v) : PDen ρ ok' w d v := DDen.mono h1 (fun _ _ => rfl) (fun _ _ h => by cases h) h
theorem argsB : ∀ {ss : List S} {vs : List Value} {as : List D} {H : Hp} (_ : Rel X φ tm H a w), ss.all S.plain = true → All2 (SDen X.ρ (okB X φ H w.heap.size) φ H w) ss vs → argDs H ss = some as → All2 (PDen X.ρ (okB X φ (frzs H ss) w.heap.size) w) as vs
  | [], [], as, H, _, _, _, h => by simp [argDs] at h; subst h; trivial
  | .d d :: ss, v :: vs, as, H, R, hp, ⟨h1, h2⟩, h => by
    simp only [List.all_cons, Bool.and_eq_true] at hp
    simp only [argDs] at h
    split at h <;> first | (exfalso; revert h; simp; done) | skip
    rename_i x xs k1 k2
    injection h with h; subst h
    exact ⟨(argB R hp.1 h1 k1).mono fun _ => (frzs_fz ss _).ok, argsB (H := frz H d) (R.fz (frz_fz H d)) hp.2 (h2.imp fun _ _ h => h.fz (frz_fz H d)) (argDs_fz (frz_fz H d) hp.2 k2)⟩
  | .tup _ :: _, _ :: _, _, _, _, _, _, h => by simp [argDs] at h
  | [], _ :: _, _, _, _, _, h, _ => h.elim
  | _ :: _, [], _, _, _, _, h, _ => h.elim

theorem Fr.of {w' : World} {ok : Nat → Prop} {wr : Nat → Prop} {v : Value} (hb : X.base ≤ w.heap.size) (h : Fr (ctxOf X.ρ ok w wr v) w w') (hw : ∀ b, wr b → X.base ≤ b ∨ X.wr b) : Fr X w w' :=
  ⟨h.os, h.tape, h.output, h.size, fun k hk hn => h.block k (by show k < w.heap.size; omega) (fun hwk => by rcases hw k hwk with h | h; omega; exact hn h)⟩

/-- What the machine does at a call, of the kind that enters. -/
def enterB (P : Program) (fid : FuncId) : Bool :=
  match P.funcs[fid]? with
  | some fn => !(fn.name == "runtime.NumGoroutine") && fn.body.isSome
  | none => false
theorem enter_run {fid : FuncId} (h : enterB P fid = true) (args : Array Value) : (callFunc fid args).run P w = .ok (.enter fid args) w := by
  unfold enterB at h
  split at h
  · rename_i fn hf
    simp only [Bool.and_eq_true, Bool.not_eq_true'] at h
    have h1 : fn.name ≠ "runtime.NumGoroutine" := by simpa using h.1
    have h2 : fn.body.isNone = false := by cases hb : fn.body <;> simp_all
    simp [callFunc, hf, h1, h2]
    try (intro hn; rw [hn] at h; simp at h)
  · cases h
def okCall (ρ : Nat → Option Nat) (op : Go.Op) (xs : List Pm.X) : In → Bool
  | .call _ f _ _ => match op with
    | .call c => match c.callee with
      | .value o => match f with
        | some g => match o with
          | .func fid => (match ρ fid with | some g' => Nat.beq g' g | none => false) && xsB ρ c.args.toList xs
          | _ => false
        | none => xsB ρ (o :: c.args.toList) xs
      | _ => false
    | _ => false
  | _ => false
theorem All2.left {α β γ : Type} {p : α → γ → Prop} {q : β → γ → Prop} {f : α → β} (h : ∀ a c, p a c → q (f a) c) : ∀ {l : List α} {m : List γ}, All2 p l m → All2 q (l.map f) m
  | [], [], _ => trivial
  | _ :: _, _ :: _, ⟨a, b⟩ => ⟨h _ _ a, b.left h⟩

set_option maxHeartbeats 1000000 in
theorem call_wp {C : CallF} (hC : CallsOk P X.ρ C) (hE : ∀ fid g, X.ρ fid = some g → enterB P fid = true) (R : Rel X φ tm H a w) {o : Oper} {xs : List Pm.X} {nm : Nat} {f : Option Nat} {rs : List RT} {io : Bool} {ss : List S} (h : okCall X.ρ o.op xs (.call nm f rs io) = true) (he : evXs tm xs = some ss)
    {c : CallR} (hc : callI H nm f rs io ss = some c) {r : RI c.rs} (hr : callT C c.rs c.f c.as = some r) {s : S} {H' : Hp} (hfin : c.fin r = some (s, H')) {K : Act → World → Prop} {Q : Exit → Act → World → Prop}
    (hK : ∀ φ' v w', Rel X φ' tm H' a w' → SDen X.ρ (okB X φ' H' w'.heap.size) φ' H' w' s v → Fr X w w' → K (a.put o.dst v) w') : o.wp P a w K Q := by
  obtain ⟨ds, hds, hdec⟩ := Option.bind_eq_some_iff.1 hr
  simp only [okCall] at h
  split at h <;> first | cases h | skip
  rename_i cl ho
  split at h <;> first | cases h | skip
  rename_i oc hcal
  have enter : ∀ (fid : FuncId) (vs : List Value), (∃ pre caps, a.eval oc = .func (.func fid) #[] caps ∧ vs = pre ++ caps.toList ∧ cl.args.toList.map a.eval = pre) → enterB P fid = true →
      Calls P fid vs.toArray w (fun en w' => match en with
        | .returned v => K (a.put o.dst v) w'
        | .panicked chain => Q (.panic chain) a w'
        | .outgrown => LetsOut Q) → o.wp P a w K Q := by
    rintro fid vs ⟨pre, caps, h1, rfl, h2⟩ hen hcl
    have har : cl.args.map a.eval = pre.toArray := by apply Array.ext'; rw [Array.toList_map]; exact h2
    have hrun : (execOp a.eval o).run P w = .ok (.enter fid (pre ++ caps.toList).toArray) w := by
      have := enter_run (w := w) hen (pre.toArray ++ caps)
      simp [execOp, ho, resolve, hcal, Deferred.ofValue, h1, invoke, har, this]
    unfold Oper.wp
    rw [hrun]
    refine hcl.mono ?_
    intro en w' h
    cases en <;> exact h
  cases io with
  | false =>
    cases f with
    | some g =>
      simp only at h
      split at h <;> first | cases h | skip
      rename_i fid
      simp only [Bool.and_eq_true] at h
      obtain ⟨hg, hx⟩ := h
      split at hg <;> first | cases hg | skip
      rename_i g' hρ
      obtain rfl := Nat.eq_of_beq_eq_true hg
      have hall := xsB_den R hx he
      simp only [callI] at hc
      split at hc <;> first | (exfalso; revert hc; simp; done) | skip
      rename_i as has
      cases hb : (rs.any RT.sl && !ss.all S.plain) with
      | true => rw [hb] at hc; cases hc
      | false =>
        rw [hb] at hc
        simp only [cond_false, Option.some.injEq] at hc
        subst hc
        simp only at hfin hds hdec
        obtain ⟨H1, hp, hfe⟩ := Option.map_eq_some_iff.1 hfin
        simp only [Prod.mk.injEq] at hfe
        obtain ⟨rfl, rfl⟩ := hfe
        refine enter fid (cl.args.toList.map a.eval) ⟨_, #[], rfl, by simp, rfl⟩ (hE fid g' hρ) ?_
        cases hsl : rs.any RT.sl with
        | true =>
          rw [hsl] at hb hp
          have hpl : ss.all S.plain = true := by simpa using hb
          have R1 := R.fz (frzs_fz ss H)
          refine (hC.plain g' fid as ds w _ (okB X φ (frzs H ss) w.heap.size) hρ hds (fun b hb => hb.2.1) (argsB R hpl hall has)).mono ?_
          rintro en w' ⟨us, rfl, hfr, hrd, hap⟩
          obtain ⟨φ', r1, r2⟩ := R1.imp hdec hp hfr (fun _ h => h) hrd hap (.inl fun _ h => h)
          exact hK φ' _ w' r1 r2 (Fr.of R.bnd hfr (fun _ h => h.elim))
        | false =>
          rw [hsl] at hp
          refine (hC.plain g' fid as ds w _ (fun b => b < w.heap.size) hρ hds (fun b hb => hb) (argsA R hall has)).mono ?_
          rintro en w' ⟨us, rfl, hfr, hrd, hap⟩
          obtain ⟨φ', r1, r2⟩ := R.imp hdec hp hfr (fun _ h => h) hrd hap (.inr hsl)
          exact hK φ' _ w' r1 r2 (Fr.of R.bnd hfr (fun _ h => h.elim))
    | none =>
      simp only at h
      have hall := xsB_den R h he
      simp only [callI] at hc
      split at hc <;> first | (exfalso; revert hc; simp; done) | skip
      rename_i cd ss'
      split at hc <;> first | (exfalso; revert hc; simp; done) | skip
      rename_i g l as hcl has
      cases hsl : rs.any RT.sl with
      | true => rw [hsl] at hc; cases hc
      | false =>
        rw [hsl] at hc
        simp only [cond_false, Option.some.injEq] at hc
        subst hc
        simp only at hfin hds hdec
        obtain ⟨H1, hp, hfe⟩ := Option.map_eq_some_iff.1 hfin
        simp only [Prod.mk.injEq] at hfe
        obtain ⟨rfl, rfl⟩ := hfe
        obtain ⟨fid, cvs, hρ, hv, hcv⟩ := argA R hall.1 hcl
        refine enter fid (cl.args.toList.map a.eval ++ cvs) ⟨_, cvs.toArray, hv, by simp, rfl⟩ (hE fid g hρ) ?_
        refine (hC.plain g fid _ ds w _ (fun b => b < w.heap.size) hρ hds (fun b hb => hb) ((argsA R hall.2 has).append (hcv.left (f := fun (v : TV) => D.iptr v.t v.x) fun _ _ h => h))).mono ?_
        rintro en w' ⟨us, rfl, hfr, hrd, hap⟩
        obtain ⟨φ', r1, r2⟩ := R.imp hdec hp hfr (fun _ h => h) hrd hap (.inr hsl)
        exact hK φ' _ w' r1 r2 (Fr.of R.bnd hfr (fun _ h => h.elim))
  | true =>
    simp only [callI] at hc
    split at hc <;> first | (exfalso; revert hc; simp; done) | skip
    rename_i g n
    split at hc <;> first | (exfalso; revert hc; simp; done) | skip
    rename_i e ys hn
    simp only [Option.some.injEq] at hc
    subst hc
    simp only [Option.some.injEq, Prod.mk.injEq] at hfin hds hdec
    obtain ⟨rfl, rfl⟩ := hfin
    simp only at h
    split at h <;> first | cases h | skip
    rename_i fid
    simp only [Bool.and_eq_true] at h
    obtain ⟨hg, hx⟩ := h
    split at hg <;> first | cases hg | skip
    rename_i g' hρ
    obtain rfl := Nat.eq_of_beq_eq_true hg
    obtain ⟨v0, hv0, hv1, _⟩ : ∃ v, cl.args.toList.map a.eval = [v] ∧ v = φ n ∧ True := by
      have hall := xsB_den R hx he
      revert hall
      match cl.args.toList.map a.eval with
      | [] => intro h; exact h.elim
      | [v1] => intro h; exact ⟨v1, rfl, h.1.1, trivial⟩
      | _ :: _ :: _ => intro h; exact h.2.elim
    subst hv1
    obtain ⟨T, cs, hrow, hel⟩ := R.obs n _ hn
    refine enter fid [φ n] ⟨_, #[], rfl, by simp, hv0⟩ (hE fid g' hρ) ?_
    refine (hC.io g' fid e ys ds w (φ n) (okB X φ H w.heap.size) hρ hds (fun b hb => ⟨hb.2.1, hb.2.2 n _ hn rfl⟩) (fun b hb => blk_lt R hn rfl hb) ⟨T, cs, hrow, hel⟩).mono ?_
    rintro en w' ⟨zs, v', rfl, rfl, hlen, hfr, T', cs', hrow', hel'⟩
    obtain ⟨_, hcast⟩ := castT_some hdec
    simp only at hcast
    subst hcast
    have hmine : ∀ b, blk (φ n) = some b → X.base ≤ b := fun b h => by have := R.mine n _ b hn rfl h; simpa [Ob.isIo] using this
    refine hK φ v' w' (R.turn hn rfl (.inr ⟨_, .lv, rfl, hlen⟩) rfl rfl hfr.size (fun b hb hne => hfr.block b hb hne) (fun hok => ⟨T', cs', hrow', fun i hi => (hel' i hi).mono (fun b hb => ?_) (fun _ _ => rfl)⟩)) trivial (Fr.of R.bnd hfr (fun b h => .inl (hmine b h)))
    obtain ⟨h1, h2, h3⟩ := hb
    rcases h1 with h1 | h1
    · exact hok b h1
    · refine ⟨.inr (Nat.le_trans R.bnd h1), h2, fun m p hm hp hbm => ?_⟩
      rcases upd_cases hm with ⟨rfl, rfl⟩ | ⟨_, hm⟩
      · exact h3 hbm
      · have := blk_lt R hm (by cases p <;> simp_all [Ob.live, Ob.isDead]) hbm; omega
end
end Pm
end
section
/- What an operation needs of the plain memory and what it leaves there: two operations that have nothing to do with each other may change places. -/
namespace Pm
open Go Go.RowKit

def fzO : Ob → Ob
  | .arr e xs .lv => .arr e xs .fr
  | o => o
inductive Shp where
  | arr (e : Ty) (n : Nat) | box (t : Ty) | dead
def shp : Ob → Shp
  | .arr e xs _ => .arr e xs.length
  | .box t _ => .box t
  | .dead => .dead
def eff (N : Hp) (F : Nat → Bool) (H : Hp) : Hp := fun m => match N m with
  | some o => some o
  | none => cond (F m) ((H m).map fzO) (H m)
def Agr : Nat → (Nat → Prop) → Hp → Hp → Prop
  | 0, _, _, _ => True
  | 1, K, H, H2 => ∀ n, K n → (H2 n).map shp = (H n).map shp
  | 2, K, H, H2 => ∀ n, K n → (H2 n).map fzO = (H n).map fzO
  | _, K, H, H2 => ∀ n, K n → H2 n = H n
theorem fzO_fzO (o : Ob) : fzO (fzO o) = fzO o := by cases o with
  | arr e xs l => cases l <;> rfl
  | _ => rfl
theorem shp_fzO (o : Ob) : shp (fzO o) = shp o := by cases o with
  | arr e xs l => cases l <;> rfl
  | _ => rfl
theorem Agr.of3 {K : Nat → Prop} {H H2 : Hp} (h : ∀ n, K n → H2 n = H n) : ∀ k, Agr k K H H2
  | 0 => trivial
  | 1 => fun n hn => by rw [h n hn]
  | 2 => fun n hn => by rw [h n hn]
  | _ + 3 => h
theorem Agr.of2 {K : Nat → Prop} {H H2 : Hp} (h : ∀ n, K n → (H2 n).map fzO = (H n).map fzO) : ∀ k, k ≤ 2 → Agr k K H H2
  | 0, _ => trivial
  | 1, _ => fun n hn => by
    have := congrArg (Option.map shp) (h n hn)
    simp only [Option.map_map] at this
    have e : shp ∘ fzO = shp := funext shp_fzO
    rw [e] at this; exact this
  | 2, _ => h
  | _ + 3, h => by omega
theorem Agr.of1 {K : Nat → Prop} {H H2 : Hp} (h : ∀ n, K n → (H2 n).map shp = (H n).map shp) : ∀ k, k ≤ 1 → Agr k K H H2
  | 0, _ => trivial
  | 1, _ => h
  | _ + 2, h => by omega
theorem Agr.to1 {K : Nat → Prop} {H H2 : Hp} : ∀ {k}, Agr k K H H2 → 1 ≤ k → ∀ n, K n → (H2 n).map shp = (H n).map shp
  | 0, _, h => by omega
  | 1, h, _ => h
  | 2, h, _ => fun n hn => by
    have := congrArg (Option.map shp) (h n hn)
    simp only [Option.map_map] at this
    have e : shp ∘ fzO = shp := funext shp_fzO
    rw [e] at this; exact this
  | _ + 3, h, _ => fun n hn => by rw [show H2 n = H n from h n hn]
theorem Agr.to2 {K : Nat → Prop} {H H2 : Hp} : ∀ {k}, Agr k K H H2 → 2 ≤ k → ∀ n, K n → (H2 n).map fzO = (H n).map fzO
  | 0, _, h => by omega
  | 1, _, h => by omega
  | 2, h, _ => h
  | _ + 3, h, _ => fun n hn => by rw [show H2 n = H n from h n hn]

def S.nm : S → List Nat
  | .d x => namesD x
  | .tup xs => xs.flatMap namesD
def actI (C : CallF) (i : In) (H : Hp) (ss : List S) : Option (S × Hp) :=
  match i with
  | .call nm f rs io => match callI H nm f rs io ss with
    | some c => (callT C c.rs c.f c.as).bind fun r => c.fin r
    | none => none
  | i => match core H i ss with
    | some (c, s, H') => @ite _ c.p c.dec (some (s, H')) none
    | none => none
theorem actI_core {C : CallF} {i : In} {H : Hp} {ss : List S} (h : ∀ nm f rs io, i ≠ .call nm f rs io) : actI C i H ss = match core H i ss with
    | some (c, s, H') => @ite _ c.p c.dec (some (s, H')) none
    | none => none := by
  cases i <;> first | rfl | exact absurd rfl (h _ _ _ _)

structure Law (act : Hp → Option (S × Hp)) (nd wr : Nat) (fz : Bool) (K : Nat → Prop) (H : Hp) (s : S) (H' : Hp) (N : Hp) (F : Nat → Bool) : Prop where
  h : H' = eff N F H
  hF : ∀ m, F m = true → K m ∧ fz = true
  hK : ∀ m o, N m = some o → K m → wr ≠ 0 ∧ (wr = 1 → ∃ o0, H m = some o0 ∧ shp o = shp o0)
  hN : ∀ m, N m ≠ none → ¬ K m → H m = none
  hs : ∀ n ∈ s.nm, K n ∨ N n ≠ none
  hb : ∀ m t d, N m = some (.box t d) → ∀ n ∈ namesD d, K n ∨ N n ≠ none
  go : ∀ H2, Agr nd K H H2 → (∀ m, N m ≠ none → ¬ K m → H2 m = none) → act H2 = some (s, eff N F H2)

/-- How much of the memory an operation needs; what it does there; does it freeze. -/
def In.nd : In → Nat
  | .len | .iadr _ | .fadr _ _ => 1
  | .load _ | .loadb _ | .build _ _ | .bsl _ _ _ _ | .mkfn _ => 2
  | .slice _ m _ _ _ _ => match m with | .snap => 2 | _ => 3
  | .store _ | .storeb _ | .copy _ | .app _ _ _ => 3
  | .call _ _ _ io => cond io 3 2
  | _ => 0
def In.wr : In → Nat
  | .store _ | .storeb _ | .copy _ => 1
  | .app _ _ _ => 2
  | .slice _ m _ _ _ _ => match m with | .trunc => 2 | _ => 0
  | .call _ _ _ io => cond io 2 0
  | _ => 0
def In.fz : In → Bool
  | .build _ _ | .bsl _ _ _ _ => true
  | .slice _ m _ _ _ _ => match m with | .snap => true | _ => false
  | .store _ | .storeb _ | .copy _ | .app _ _ _ => true
  | .call _ _ _ io => !io
  | _ => false

section
variable {K : Nat → Prop} {H : Hp} {ss : List S} {C : CallF}

def nil : Hp := fun _ => none
def noF : Nat → Bool := fun _ => false
theorem eff_nil (H : Hp) : eff nil noF H = H := rfl
/-- An operation that leaves the memory as it is. -/
theorem Law.same {act : Hp → Option (S × Hp)} {nd wr : Nat} {fz : Bool} {s : S} (hs : ∀ n ∈ s.nm, K n) (hgo : ∀ H2, Agr nd K H H2 → act H2 = some (s, H2)) : Law act nd wr fz K H s H nil noF :=
  ⟨rfl, fun _ h => (by cases h), fun _ _ h => (by cases h), fun _ h => absurd rfl h, fun n hn => .inl (hs n hn), fun _ _ _ h => (by cases h), fun H2 h _ => hgo H2 h⟩
def one (n : Nat) (o : Ob) : Hp := fun m => cond (Nat.beq m n) (some o) none
theorem one_some {n m : Nat} {o p : Ob} (h : one n o m = some p) : m = n ∧ p = o := by
  unfold one at h
  cases hb : Nat.beq m n with
  | true => rw [hb] at h; exact ⟨Nat.eq_of_beq_eq_true hb, by injection h with h; exact h.symm⟩
  | false => rw [hb] at h; cases h
theorem one_ne {n m : Nat} {o : Ob} (h : one n o m ≠ none) : m = n := by
  cases hn : one n o m with
  | none => exact absurd hn h
  | some p => exact (one_some hn).1
theorem one_self (n : Nat) (o : Ob) : one n o n = some o := by simp [one]
theorem upd_eff (n : Nat) (o : Ob) (F : Nat → Bool) (H : Hp) : upd (eff nil F H) n o = eff (one n o) F H := by
  funext m
  simp only [upd, eff, one, nil]
  cases hb : Nat.beq m n <;> rfl
def two (n : Nat) (o : Ob) (n' : Nat) (o' : Ob) : Hp := fun m => cond (Nat.beq m n') (some o') (one n o m)
theorem upd2_eff (n : Nat) (o : Ob) (n' : Nat) (o' : Ob) (F : Nat → Bool) (H : Hp) : upd (upd (eff nil F H) n o) n' o' = eff (two n o n' o') F H := by
  funext m
  simp only [upd, eff, two, one, nil]
  cases hb : Nat.beq m n' with
  | true => rfl
  | false => cases hb2 : Nat.beq m n <;> rfl
def frD : D → Nat → Bool
  | .ref n => fun m => Nat.beq m n
  | _ => noF
theorem frz_eff (H : Hp) (d : D) : frz H d = eff nil (frD d) H := by
  cases d with
  | ref n =>
    funext m
    simp only [frz, frD, eff, nil]
    cases hb : Nat.beq m n with
    | true =>
      have := Nat.eq_of_beq_eq_true hb; subst this
      cases hm : H m with
      | none => simp [hm]
      | some o =>
        cases o with
        | arr e xs l => cases l <;> simp [hm, fzO, upd]
        | _ => simp [hm, fzO]
    | false =>
      simp only [cond_false]
      cases hn : H n with
      | none => rfl
      | some o => cases o with
        | arr e xs l => cases l <;> simp [upd, hb]
        | _ => rfl
  | _ => rfl
def frS : List S → Nat → Bool
  | [] => noF
  | .d d :: ss => fun m => frD d m || frS ss m
  | _ :: ss => frS ss
theorem eff_eff (F G : Nat → Bool) (H : Hp) : eff nil F (eff nil G H) = eff nil (fun m => G m || F m) H := by
  funext m
  simp only [eff, nil]
  cases G m <;> cases F m <;> simp [fzO_fzO, Function.comp_def]
theorem frzs_eff : ∀ (ss : List S) (H : Hp), frzs H ss = eff nil (frS ss) H
  | [], _ => rfl
  | .d d :: ss, H => by
    simp only [frzs, frS]
    rw [frzs_eff ss, frz_eff, eff_eff]
  | .tup _ :: ss, H => frzs_eff ss H
theorem frD_names {d : D} {m : Nat} (h : frD d m = true) : m ∈ namesD d := by
  cases d with
  | ref n => simp only [frD] at h; have := Nat.eq_of_beq_eq_true h; subst this; simp [namesD]
  | _ => cases h
theorem frS_names : ∀ {ss : List S} {m : Nat}, frS ss m = true → ∃ s ∈ ss, m ∈ s.nm
  | .d d :: ss, m, h => by
    simp only [frS, Bool.or_eq_true] at h
    rcases h with h | h
    · exact ⟨_, List.mem_cons_self, frD_names h⟩
    · obtain ⟨s, h1, h2⟩ := frS_names h
      exact ⟨s, List.mem_cons_of_mem _ h1, h2⟩
  | .tup _ :: ss, m, h => by
    obtain ⟨s, h1, h2⟩ := frS_names (ss := ss) h
    exact ⟨s, List.mem_cons_of_mem _ h1, h2⟩
/-- Something new is made. -/
theorem Law.make {act : Hp → Option (S × Hp)} {nd wr : Nat} {fz : Bool} {s : S} {nm : Nat} {o : Ob} {F : Nat → Bool} (hdom : ∀ n, K n → H n ≠ none) (hnm : H nm = none) (hF : ∀ m, F m = true → K m ∧ fz = true)
    (hs : ∀ n ∈ s.nm, K n ∨ n = nm) (hb : ∀ t d, o = .box t d → ∀ n ∈ namesD d, K n) (hgo : ∀ H2, Agr nd K H H2 → H2 nm = none → act H2 = some (s, upd (eff nil F H2) nm o)) : Law act nd wr fz K H s (upd (eff nil F H) nm o) (one nm o) F where
  h := upd_eff _ _ _ _
  hF := hF
  hK m p h hk := by obtain ⟨rfl, rfl⟩ := one_some h; exact absurd hnm (hdom _ hk)
  hN m h _ := by rw [one_ne h]; exact hnm
  hs n hn := (hs n hn).imp id fun h => by rw [h, one_self]; simp
  hb m t d h n hn := .inl (hb t d (one_some h).2.symm n hn)
  go H2 h hn := by rw [← upd_eff]; exact hgo H2 h (hn nm (by rw [one_self]; simp) fun hk => hdom _ hk hnm)

theorem snap_agr {H2 : Hp} {t : Ty} {d : D} (h : ∀ n, K n → (H2 n).map fzO = (H n).map fzO) (hd : ∀ n ∈ namesD d, K n) : snap H2 t d = snap H t d := by
  cases d with
  | ref n =>
    have := h n (hd n (by simp [namesD]))
    simp only [snap]
    cases h1 : H n with
    | none => rw [h1] at this; cases h2 : H2 n with
      | none => rfl
      | some o => rw [h2] at this; cases this
    | some o =>
      rw [h1] at this
      cases h2 : H2 n with
      | none => rw [h2] at this; cases this
      | some o2 =>
        rw [h2] at this
        simp only [Option.map_some, Option.some.injEq] at this
        cases o with
        | arr e xs l => cases o2 with
          | arr e2 xs2 l2 => cases l <;> cases l2 <;> simp only [fzO, Ob.arr.injEq] at this <;> first | (obtain ⟨rfl, h, _⟩ := this; cases h; rfl) | (exfalso; simp at this; done)
          | _ => cases l <;> simp [fzO] at this
        | _ => cases o2 with
          | arr e2 xs2 l2 => cases l2 <;> simp [fzO] at this
          | _ => rfl
  | _ => rfl
theorem snaps_agr {H2 : Hp} (h : ∀ n, K n → (H2 n).map fzO = (H n).map fzO) : ∀ {ts : List Ty} {ss : List S}, (∀ s ∈ ss, ∀ n ∈ s.nm, K n) → snaps H2 ts ss = snaps H ts ss
  | [], [], _ => rfl
  | t :: ts, .d d :: ss, hd => by
    simp only [snaps]
    rw [snap_agr h (hd _ List.mem_cons_self), snaps_agr h fun s hs => hd s (List.mem_cons_of_mem _ hs)]
  | [], _ :: _, _ => rfl
  | _ :: _, [], _ => rfl
  | _ :: _, .tup _ :: _, _ => rfl
theorem agr_some {β : Type} {f : Ob → β} {a b : Option Ob} (h : a.map f = b.map f) {o : Ob} (hb : b = some o) : ∃ o', a = some o' ∧ f o' = f o := by
  subst hb
  cases a with
  | none => cases h
  | some o' => exact ⟨o', rfl, by simpa using h⟩
end
end Pm
end
section
/- Each operation: its law. -/
namespace Pm
open Go Go.RowKit

section
variable {K : Nat → Prop} {H : Hp} {ss : List S} {C : CallF}

theorem act_inv {i : In} (hn : ∀ nm f rs io, i ≠ .call nm f rs io) {s : S} {H' : Hp} (h : actI C i H ss = some (s, H')) : ∃ c, core H i ss = some (c, s, H') ∧ c.p := by
  rw [actI_core hn] at h
  split at h
  · rename_i c s1 H1 hc
    by_cases hp : c.p
    · rw [show (@ite _ c.p c.dec (some (s1, H1)) none) = some (s1, H1) from @if_pos _ c.dec hp _ _ _] at h
      simp only [Option.some.injEq, Prod.mk.injEq] at h
      obtain ⟨rfl, rfl⟩ := h
      exact ⟨c, hc, hp⟩
    · rw [show (@ite _ c.p c.dec (some (s1, H1)) none) = none from @if_neg _ c.dec hp _ _ _] at h
      cases h
  · cases h
theorem act_of {i : In} (hn : ∀ nm f rs io, i ≠ .call nm f rs io) {s : S} {H' : Hp} {c : Chk} (h : core H i ss = some (c, s, H')) (hp : c.p) : actI C i H ss = some (s, H') := by
  rw [actI_core hn, h]
  exact @if_pos _ c.dec hp _ _ _

def LawOf (C : CallF) (i : In) (K : Nat → Prop) (ss : List S) (H : Hp) (s : S) (H' : Hp) : Prop := ∃ N F, Law (fun H => actI C i H ss) i.nd i.wr i.fz K H s H' N F
theorem of_same {i : In} (hn : ∀ nm f rs io, i ≠ .call nm f rs io) {s : S} {H' : Hp} {c : Chk} (hp : c.p) (he : H' = H) (hs : ∀ n ∈ s.nm, K n) (hgo : ∀ H2, Agr i.nd K H H2 → core H2 i ss = some (c, s, H2)) : LawOf C i K ss H s H' := by
  subst he
  exact ⟨nil, noF, .same hs fun H2 h => act_of hn (hgo H2 h) hp⟩
theorem of_make {i : In} (hn : ∀ nm f rs io, i ≠ .call nm f rs io) (hdom : ∀ n, K n → H n ≠ none) {s : S} {H' : Hp} {c : Chk} (hp : c.p) {nm : Nat} {o : Ob} (he : H' = upd H nm o) (hnm : H nm = none)
    (hs : s.nm = [nm]) (hb : ∀ t d, o = .box t d → ∀ n ∈ namesD d, K n) (hgo : ∀ H2, Agr i.nd K H H2 → H2 nm = none → core H2 i ss = some (c, s, upd H2 nm o)) : LawOf C i K ss H s H' := by
  subst he
  refine ⟨one nm o, noF, ?_⟩
  have := Law.make (act := fun H => actI C i H ss) (nd := i.nd) (wr := i.wr) (fz := i.fz) (K := K) (H := H) (s := s) (nm := nm) (o := o) (F := noF) hdom hnm (fun _ h => by cases h) (fun n h => by rw [hs] at h; exact .inr (by simpa using h)) hb (fun H2 h hn2 => act_of hn (hgo H2 h hn2) hp)
  exact this
theorem new_of {H2 : Hp} {nm : Nat} {ob : Ob} {d : D} (h : H2 nm = none) : new H2 nm ob d = some (.tt, .d d, upd H2 nm ob) := by simp [new, h]
theorem newC_of {H2 : Hp} {c : Chk} {nm : Nat} {ob : Ob} {d : D} (h : H2 nm = none) : newC c H2 nm ob d = some (c, .d d, upd H2 nm ob) := by simp [newC, h]
theorem cont_nm {t : Ty} {d d' : D} (h : cont t d = some d') : ∀ n ∈ namesD d', n ∈ namesD d := by
  cases d with
  | val t' x => simp only [cont, Option.map_eq_some_iff] at h; obtain ⟨y, _, rfl⟩ := h; intro n hn; simp [namesD] at hn
  | nil => cases t <;> simp [cont] at h; subst h; intro n hn; exact hn
  | ref m => cases t <;> simp [cont] at h; subst h; intro n hn; exact hn
  | _ => simp [cont] at h
theorem new_eq {nm : Nat} {ob : Ob} {d : D} {c : Chk} {s : S} {H' : Hp} (h : new H nm ob d = some (c, s, H')) : H nm = none ∧ c = .tt ∧ s = .d d ∧ H' = upd H nm ob := by
  unfold new at h
  split at h
  · rename_i hn
    obtain ⟨rfl, rfl, rfl⟩ := outeq h; exact ⟨hn, rfl, rfl, rfl⟩
  · cases h
theorem newC_eq {c0 : Chk} {nm : Nat} {ob : Ob} {d : D} {c : Chk} {s : S} {H' : Hp} (h : newC c0 H nm ob d = some (c, s, H')) : H nm = none ∧ c = c0 ∧ s = .d d ∧ H' = upd H nm ob := by
  unfold newC at h
  split at h
  · rename_i hn
    obtain ⟨rfl, rfl, rfl⟩ := outeq h; exact ⟨hn, rfl, rfl, rfl⟩
  · cases h
theorem lenOf_agr {H2 : Hp} {d : D} {n : Nat} (h : ∀ n, K n → (H2 n).map shp = (H n).map shp) (hd : ∀ n ∈ namesD d, K n) (hl : lenOf H d = some n) : lenOf H2 d = some n := by
  cases d with
  | ref m =>
    simp only [lenOf] at hl ⊢
    split at hl
    · rename_i e xs l hm
      obtain ⟨o, h1, h2⟩ := agr_some (h m (hd m (by simp [namesD]))) hm
      rw [h1]
      cases o <;> simp only [shp, Shp.arr.injEq, reduceCtorEq] at h2
      simp only [h2.2]; exact hl
    · cases hl
  | val t x => cases t <;> exact hl
  | _ => exact hl
theorem names_agr {H2 : Hp} (h : ∀ n, K n → (H2 n).map shp = (H n).map shp) : ∀ {ss : List S} {ns : List Nat}, (∀ s ∈ ss, ∀ n ∈ s.nm, K n) → names H ss = some ns → names H2 ss = some ns ∧ ∀ n ∈ ns, K n
  | [], ns, _, hn => by simp [names] at hn; subst hn; exact ⟨rfl, by simp⟩
  | .d (.ptr n 0 []) :: ss, ns, hd, hn => by
    simp only [names] at hn ⊢
    split at hn
    · rename_i t d hm
      obtain ⟨ns', h1, rfl⟩ := Option.map_eq_some_iff.1 hn
      have hk : K n := hd _ List.mem_cons_self n (by simp [S.nm, namesD])
      obtain ⟨o, h2, h3⟩ := agr_some (h n hk) hm
      obtain ⟨h4, h5⟩ := names_agr h (fun s hs => hd s (List.mem_cons_of_mem _ hs)) h1
      rw [h2]
      cases o <;> simp only [shp, Shp.box.injEq, reduceCtorEq] at h3
      rw [h4]
      exact ⟨rfl, by intro m hm; rcases List.mem_cons.1 hm with rfl | hm; exact hk; exact h5 m hm⟩
    · cases hn
  | .d (.ptr n (k + 1) p) :: ss, _, _, hn => by simp [names] at hn
  | .d (.ptr n 0 (_ :: _)) :: ss, _, _, hn => by simp [names] at hn
  | .d .undef :: _, _, _, hn | .d (.val _ _) :: _, _, _, hn | .d .nil :: _, _, _, hn | .d (.fsl _ _) :: _, _, _, hn | .d (.nn _ _) :: _, _, _, hn | .d (.ref _) :: _, _, _, hn | .d (.view _ _) :: _, _, _, hn | .d (.iptr _ _) :: _, _, _, hn | .d (.clo _ _) :: _, _, _, hn | .d (.cloi _ _) :: _, _, _, hn | .d (.own _ _) :: _, _, _, hn | .tup _ :: _, _, _, hn => by simp [names] at hn
theorem ldI_agr {H2 : Hp} {t : Ty} {a d : D} (h : ∀ n, K n → (H2 n).map fzO = (H n).map fzO) (ha : ∀ n ∈ namesD a, K n) (hbx : ∀ n t d, K n → H n = some (.box t d) → ∀ m ∈ namesD d, K m) (hl : ldI H t a = some d) : ldI H2 t a = some d ∧ ∀ n ∈ namesD d, K n := by
  cases a with
  | iptr t' x =>
    refine ⟨hl, ?_⟩
    simp only [ldI, Option.map_eq_some_iff] at hl
    obtain ⟨y, _, rfl⟩ := hl
    intro n hn; simp [namesD] at hn
  | ptr n i p =>
    have hk := ha n (by simp [namesD])
    simp only [ldI, ldAt] at hl ⊢
    split at hl
    · rename_i bt d0 hm
      obtain ⟨o, h1, h2⟩ := agr_some (h n hk) hm
      have : o = .box bt d0 := by
        cases o with
        | arr e xs l => cases l <;> simp [fzO] at h2
        | _ => first | (simp [fzO] at h2; done) | (simp [fzO] at h2 ⊢; exact h2)
      subst this
      rw [h1]
      refine ⟨hl, ?_⟩
      split at hl
      · cases hb : Ty.beq bt t with
        | true => rw [hb] at hl; simp only [cond_true, Option.some.injEq] at hl; subst hl; exact hbx n _ _ hk hm
        | false => rw [hb] at hl; cases hl
      · split at hl
        · split at hl
          · simp only [Option.map_eq_some_iff] at hl
            obtain ⟨y, _, rfl⟩ := hl
            intro n hn; simp [namesD] at hn
          · cases hl
        · cases hl
    · rename_i e xs l hm
      obtain ⟨o, h1, h2⟩ := agr_some (h n hk) hm
      obtain ⟨l', rfl⟩ : ∃ l', o = .arr e xs l' := by
        cases o with
        | arr e2 xs2 l2 => cases l <;> cases l2 <;> simp only [fzO, Ob.arr.injEq] at h2 <;> first | (obtain ⟨rfl, h2, _⟩ := h2; cases h2; exact ⟨_, rfl⟩) | (exfalso; simp at h2; done)
        | _ => cases l <;> simp [fzO] at h2
      rw [h1]
      refine ⟨hl, ?_⟩
      split at hl
      · simp only [Option.map_eq_some_iff] at hl
        obtain ⟨y, _, rfl⟩ := hl
        intro n hn; simp [namesD] at hn
      · cases hl
    · cases hl
  | _ => simp [ldI] at hl
theorem idxI_agr {H2 : Hp} {e : Ty} {i : Int} {d : D} {r : Chk × S} (h : ∀ n, K n → (H2 n).map shp = (H n).map shp) (hd : ∀ n ∈ namesD d, K n) (hi : idxI H e i d = some r) : (∃ c', idxI H2 e i d = some (c', r.2) ∧ (r.1.p → c'.p) ∧ c' = r.1) ∧ ∀ n ∈ r.2.nm, K n := by
  cases d with
  | ref m =>
    have hk := hd m (by simp [namesD])
    simp only [idxI] at hi ⊢
    split at hi
    · rename_i e' xs l hm
      obtain ⟨o, h1, h2⟩ := agr_some (h m hk) hm
      rw [h1]
      cases o <;> simp only [shp, Shp.arr.injEq, reduceCtorEq] at h2
      obtain ⟨rfl, h2⟩ := h2
      simp only [h2]
      cases hb : Ty.beq _ e with
      | false => rw [hb] at hi; cases hi
      | true =>
        rw [hb] at hi
        simp only [cond_true, Option.some.injEq] at hi ⊢
        subst hi
        refine ⟨⟨_, rfl, id, rfl⟩, ?_⟩
        intro n hn; simp [S.nm, namesD] at hn; subst hn; exact hk
    · cases hi
  | _ =>
    refine ⟨⟨_, hi, id, rfl⟩, ?_⟩
    simp only [idxI] at hi
    split at hi
    · simp only [Option.some.injEq] at hi; subst hi; intro n hn; simp [S.nm, namesD] at hn
    · cases hi
end
end Pm
end
section
/- The law of each operation that calls nothing. -/
namespace Pm
open Go Go.RowKit

section
variable {K : Nat → Prop} {H : Hp} {ss : List S} {C : CallF}

theorem optI_indep {b : Bool} {ss ss' : List S} {n : Option Int} (h : optI b ss = some (n, ss')) : ∀ s ∈ ss', s ∈ ss := by
  cases b with
  | false => simp only [optI, Option.some.injEq, Prod.mk.injEq] at h; obtain ⟨_, rfl⟩ := h; exact fun s h => h
  | true =>
    unfold optI at h
    split at h <;> first | (rename_i hh; cases hh; done) | skip
    · simp only [Option.some.injEq, Prod.mk.injEq] at h; obtain ⟨_, rfl⟩ := h; exact fun s h => List.mem_cons_of_mem _ h
    · cases h
theorem stAt_law {H' : Hp} {t : Ty} {n i : Nat} {p : List Bool} {v : D} (hk : K n) (hv : ∀ m ∈ namesD v, K m) (h : stAt H t n i p v = some H') :
    ∃ o o0 F, H' = eff (one n o) F H ∧ H n = some o0 ∧ shp o = shp o0 ∧ (∀ m, F m = true → K m) ∧ (∀ t d, o = .box t d → ∀ m ∈ namesD d, K m) ∧ ∀ H2, (∀ m, K m → H2 m = H m) → stAt H2 t n i p v = some (eff (one n o) F H2) := by
  have hfr : ∀ m, frD v m = true → K m := fun m h => hv m (frD_names h)
  simp only [stAt] at h
  split at h
  · rename_i bt d hn
    split at h
    · cases hb : Ty.beq bt t with
      | false => rw [hb] at h; cases h
      | true =>
        rw [hb] at h
        simp only [cond_true, Option.map_eq_some_iff] at h
        obtain ⟨d', hc, rfl⟩ := h
        refine ⟨.box bt d', _, noF, upd_eff n _ noF H, hn, rfl, fun _ h => (by cases h), fun t d h => (by cases h; exact fun m hm => hv m (cont_nm hc m hm)), fun H2 h2 => ?_⟩
        simp only [stAt, h2 n hk, hn, hb, cond_true, hc, Option.map_some]
        exact congrArg some (upd_eff n _ noF H2)
    · rename_i q hq
      split at h <;> first | cases h | skip
      rename_i bt' x y hy
      cases hb : Ty.beq bt' bt with
      | false => rw [hb] at h; cases h
      | true =>
        rw [hb] at h
        simp only [cond_true, Option.map_eq_some_iff] at h
        obtain ⟨x', hx, rfl⟩ := h
        refine ⟨.box bt (.val bt' x'), _, frD v, ?_, hn, rfl, hfr, fun t d h => (by cases h; intro m hm; simp [namesD] at hm), fun H2 h2 => ?_⟩
        · rw [frz_eff]; exact upd_eff n _ _ H
        · have hs := snap_agr (t := t) (d := v) (fun m hm => congrArg (Option.map fzO) (h2 m hm)) hv
          simp only [stAt, h2 n hk, hn]
          cases p with
          | nil => exact (hq rfl).elim
          | cons b p =>
            simp only [hs, hy, hb, cond_true, hx, Option.map_some]
            rw [frz_eff]
            exact congrArg some (upd_eff n _ _ H2)
  · rename_i e0 xs0 l0 hn
    have same : ∀ H2, (∀ m, K m → H2 m = H m) → frz H2 v n = frz H v n := fun H2 h2 => by
      rw [frz_eff, frz_eff]; simp only [eff, h2 n hk]
    have hsh : ∀ o, frz H v n = some o → ∃ o0, H n = some o0 ∧ fzO o = fzO o0 := fun o ho => by
      rw [frz_eff] at ho
      simp only [eff, nil] at ho
      cases hb : frD v n with
      | false => rw [hb] at ho; exact ⟨o, ho, rfl⟩
      | true => rw [hb] at ho; simp only [cond_true, Option.map_eq_some_iff] at ho; obtain ⟨o0, h1, rfl⟩ := ho; exact ⟨o0, h1, fzO_fzO o0⟩
    split at h <;> first | cases h | skip
    rename_i e xs l y hf hy hl
    simp only [Option.map_eq_some_iff] at h
    obtain ⟨x', hx, rfl⟩ := h
    obtain ⟨o0, h0, h1⟩ := hsh _ hy
    refine ⟨.arr e (xs.set i x') l, o0, frD v, ?_, h0, ?_, hfr, fun t d h => (by cases h), fun H2 h2 => ?_⟩
    · rw [frz_eff]; exact upd_eff n _ _ H
    · have := congrArg shp h1
      rw [shp_fzO, shp_fzO] at this
      rw [← this]; simp [shp]
    · have hl2 := hl
      have hl := hy
      have hy := hl2
      have hs := snap_agr (t := t) (d := v) (fun m hm => congrArg (Option.map fzO) (h2 m hm)) hv
      simp only [stAt, h2 n hk, hn, same H2 h2, hl, hs, hy]
      simp only [hx, Option.map_some]
      rw [frz_eff]
      exact congrArg some (upd_eff n _ _ H2)
  · cases h

theorem of_make2 {i : In} (hn : ∀ nm f rs io, i ≠ .call nm f rs io) {s : S} {H' : Hp} {c : Chk} (hp : c.p) {N : Hp} {F : Nat → Bool} (hwr : i.wr = 2) (hfz : i.fz = true ∨ F = noF) (he : H' = eff N F H) (hF : ∀ m, F m = true → K m)
    (hN : ∀ m, N m ≠ none → ¬ K m → H m = none) (hs : ∀ n ∈ s.nm, K n ∨ N n ≠ none) (hb : ∀ m t d, N m = some (.box t d) → ∀ n ∈ namesD d, K n ∨ N n ≠ none)
    (hgo : ∀ H2, Agr i.nd K H H2 → (∀ m, N m ≠ none → ¬ K m → H2 m = none) → core H2 i ss = some (c, s, eff N F H2)) : LawOf C i K ss H s H' :=
  ⟨N, F, he, fun m h => ⟨hF m h, by rcases hfz with h' | h'; exact h'; rw [h'] at h; cases h⟩, fun _ _ _ _ => ⟨by omega, fun h => by omega⟩, hN, hs, hb, fun H2 h h' => act_of hn (hgo H2 h h') hp⟩
theorem two_ne {n n' m : Nat} {o o' : Ob} (h : two n o n' o' m ≠ none) : m = n' ∨ m = n := by
  unfold two at h
  cases hb : Nat.beq m n' with
  | true => exact .inl (Nat.eq_of_beq_eq_true hb)
  | false => rw [hb] at h; exact .inr (one_ne h)
theorem two_box {n n' m : Nat} {o o' : Ob} {t : Ty} {d : D} (h : two n o n' o' m = some (.box t d)) : o' = .box t d ∨ o = .box t d := by
  unfold two at h
  cases hb : Nat.beq m n' with
  | true => rw [hb] at h; exact .inl (by injection h)
  | false => rw [hb] at h; exact .inr (one_some h).2.symm
theorem two_self (n n' : Nat) (o o' : Ob) : two n o n' o' n' = some o' := by simp [two]
theorem mk_law (hdom : ∀ n, K n → H n ≠ none) {i : In} (hn : ∀ nm f rs io, i ≠ .call nm f rs io) {s : S} {H' : Hp} {c : Chk} (hp : c.p) {nm : Nat} {o : Ob} {F : Nat → Bool} (hfz : i.fz = true) (he : H' = upd (eff nil F H) nm o) (hnm : H nm = none) (hF : ∀ m, F m = true → K m)
    (hs : s.nm = [nm]) (hb : ∀ t d, o ≠ .box t d) (hgo : ∀ H2, Agr i.nd K H H2 → H2 nm = none → core H2 i ss = some (c, s, upd (eff nil F H2) nm o)) : LawOf C i K ss H s H' := by
  subst he
  exact ⟨one nm o, F, Law.make (act := fun H => actI C i H ss) hdom hnm (fun m h => ⟨hF m h, hfz⟩) (fun n h => by rw [hs] at h; exact .inr (by simpa using h)) (fun t d h => absurd h (hb t d)) fun H2 h hn2 => act_of hn (hgo H2 h hn2) hp⟩
theorem frS_K (hK : ∀ s ∈ ss, ∀ n ∈ s.nm, K n) {m : Nat} (h : frS ss m = true) : K m := by
  obtain ⟨s, h1, h2⟩ := frS_names h; exact hK s h1 m h2
theorem of_frz {i : In} (hn : ∀ nm f rs io, i ≠ .call nm f rs io) {s : S} {H' : Hp} {c : Chk} (hp : c.p) {F : Nat → Bool} (hfz : i.fz = true) (he : H' = eff nil F H) (hF : ∀ m, F m = true → K m) (hs : ∀ n ∈ s.nm, K n)
    (hgo : ∀ H2, Agr i.nd K H H2 → core H2 i ss = some (c, s, eff nil F H2)) : LawOf C i K ss H s H' :=
  ⟨nil, F, he, fun m h => ⟨hF m h, hfz⟩, fun _ _ h => (by cases h), fun _ h => absurd rfl h, fun n h => .inl (hs n h), fun _ _ _ h => (by cases h), fun H2 h _ => act_of hn (hgo H2 h) hp⟩
end
end Pm
end
section
/- The law of each operation that calls nothing. -/
namespace Pm
open Go Go.RowKit
section
variable {K : Nat → Prop} {H : Hp} {ss : List S} {C : CallF}
theorem slice_snap {H' : Hp} {nm : Nat} {e : Ty} {d : D} {lo hi mx : Option Int} {c : Chk} {s : S} (hd : ∀ n ∈ namesD d, K n) (h : sliceI H nm .snap e d lo hi mx = some (c, s, H')) :
    s.nm = [] ∧ ∃ F, H' = eff nil F H ∧ (∀ m, F m = true → K m) ∧ ∀ H2, (∀ n, K n → (H2 n).map fzO = (H n).map fzO) → sliceI H2 nm .snap e d lo hi mx = some (c, s, eff nil F H2) := by
  cases d with
  | nil =>
    simp only [sliceI] at h ⊢
    obtain ⟨rfl, rfl, rfl⟩ := outeq h
    exact ⟨rfl, noF, rfl, fun _ h => (by cases h), fun _ _ => rfl⟩
  | _ =>
    simp only [sliceI] at h ⊢
    obtain ⟨xs, hx, he⟩ := Option.map_eq_some_iff.1 h
    refine ⟨?_, frD _, ?_, fun m hm => hd m (frD_names hm), fun H2 h2 => ?_⟩
    · cases mx <;> (simp only [cutD] at he; obtain ⟨rfl, rfl, rfl⟩ := outeq (congrArg some he); rfl)
    · cases mx <;> (simp only [cutD] at he; obtain ⟨rfl, rfl, rfl⟩ := outeq (congrArg some he); exact frz_eff _ _)
    · rw [snap_agr h2 hd, hx]
      cases mx <;> (simp only [cutD] at he; obtain ⟨rfl, rfl, rfl⟩ := outeq (congrArg some he); simp only [Option.map_some, cutD, frz_eff])
theorem dat_nm (h : ss.all S.dat = true) : ∀ s ∈ ss, ∀ n ∈ s.nm, False := by
  intro s hs n hn
  have := List.all_eq_true.1 h s hs
  cases s with
  | tup => cases this
  | d x => cases x <;> first | (cases this; done) | (simp [S.nm, namesD] at hn; done)
theorem noF_of {F : Nat → Bool} (h : ∀ m, F m = true → False) : F = noF := funext fun m => by
  cases hm : F m with
  | true => exact (h m hm).elim
  | false => rfl
theorem optI_all {b : Bool} {ss ss' : List S} {n : Option Int} (h : optI b ss = some (n, ss')) : ∀ s ∈ ss', s ∈ ss := optI_indep h
theorem sliceO_inv {nm : Nat} {m : SlM} {e : Ty} {lo hi mx : Bool} {r : Chk × S × Hp} (h : sliceO H nm m e lo hi mx ss = some r) :
    ∃ d l h' k, .d d ∈ ss ∧ sliceI H nm m e d l h' k = some r ∧ ∀ H2, sliceO H2 nm m e lo hi mx ss = sliceI H2 nm m e d l h' k := by
  unfold sliceO at h
  split at h <;> first | (exfalso; revert h; simp; done) | skip
  rename_i d ss1
  split at h <;> first | (exfalso; revert h; simp; done) | skip
  rename_i l ss2 h1
  split at h <;> first | (exfalso; revert h; simp; done) | skip
  rename_i h' ss3 h2
  split at h <;> first | (exfalso; revert h; simp; done) | skip
  rename_i k h3
  exact ⟨d, l, h', k, List.mem_cons_self, h, fun H2 => by simp only [sliceO, h1, h2, h3]⟩
theorem copyTo_len {α : Type} (xs ys : List α) (l : Nat) : (copyTo xs l ys).length = xs.length := by
  simp only [copyTo, List.length_append, List.length_take, List.length_drop]; omega
set_option maxHeartbeats 4000000 in
theorem core_law (hdom : ∀ n, K n → H n ≠ none) (hK : ∀ s ∈ ss, ∀ n ∈ s.nm, K n) {i : In} (hbx : 2 ≤ i.nd → ∀ n t d, K n → H n = some (.box t d) → ∀ m ∈ namesD d, K m) (hn : ∀ nm f rs io, i ≠ .call nm f rs io) {s : S} {H' : Hp} (h : actI C i H ss = some (s, H')) : LawOf C i K ss H s H' := by
  obtain ⟨c, hc, hp⟩ := act_inv hn h
  cases i with
  | mov =>
    simp only [core, movI] at hc
    split at hc <;> first | (exfalso; revert hc; simp; done) | skip
    obtain ⟨rfl, rfl, rfl⟩ := outeq hc
    exact of_same hn hp rfl (hK _ (by simp)) fun H2 _ => rfl
  | own0 nm e =>
    simp only [core, own0I] at hc
    split at hc <;> first | (exfalso; revert hc; simp; done) | skip
    obtain ⟨h1, rfl, rfl, rfl⟩ := new_eq hc
    exact of_make hn hdom hp rfl h1 rfl (fun _ _ h => by cases h) fun H2 _ h2 => by simp only [core, own0I]; exact new_of h2
  | pick =>
    simp only [core, pickI] at hc
    split at hc <;> first | (exfalso; revert hc; simp; done) | skip
    rename_i b x y
    split at hc
    · obtain ⟨rfl, rfl, rfl⟩ := outeq hc
      exact of_same hn hp rfl (fun n h => by simp [S.nm, namesD] at h) fun H2 _ => rfl
    · rename_i hne
      obtain ⟨rfl, rfl, rfl⟩ := outeq hc
      refine of_same hn hp rfl (fun n h => ?_) fun H2 _ => ?_
      · cases b <;> exact hK _ (by simp) n h
      · simp only [core, pickI]
  | box nm t =>
    simp only [core, boxI] at hc
    split at hc <;> first | (exfalso; revert hc; simp; done) | skip
    rename_i d
    split at hc <;> first | (exfalso; revert hc; simp; done) | skip
    rename_i d' hd
    obtain ⟨h1, rfl, rfl, rfl⟩ := new_eq hc
    refine of_make hn hdom hp rfl h1 rfl (fun t1 d1 h => by cases h; exact fun n hn => hK (.d d) (by simp) n (cont_nm hd n hn)) fun H2 _ h2 => by simp only [core, boxI, hd]; exact new_of h2
  | alloc nm t =>
    simp only [core, allocI] at hc
    split at hc <;> first | (exfalso; revert hc; simp; done) | skip
    obtain ⟨h1, rfl, rfl, rfl⟩ := new_eq hc
    refine of_make hn hdom hp rfl h1 rfl (fun t d h => by cases h; intro n hn; simp [namesD] at hn) fun H2 _ h2 => by simp only [core, allocI]; exact new_of h2
  | build t ps =>
    simp only [core, buildI] at hc
    split at hc <;> first | (exfalso; revert hc; simp; done) | skip
    rename_i vs hvs
    split at hc <;> first | (exfalso; revert hc; simp; done) | skip
    rename_i x hx
    obtain ⟨rfl, rfl, rfl⟩ := outeq hc
    refine of_frz hn hp rfl (frzs_eff _ _) (fun m h => frS_K hK h) (fun n h => by simp [S.nm, namesD] at h) fun H2 h2 => ?_
    simp only [core, buildI]
    rw [snaps_agr (Agr.to2 h2 (by simp [In.nd])) hK, hvs]
    simp only [hx, frzs_eff]
  | bsl nm e len ix =>
    simp only [core, bslI] at hc
    split at hc <;> first | (exfalso; revert hc; simp; done) | skip
    rename_i vs hvs
    split at hc <;> first | (exfalso; revert hc; simp; done) | skip
    rename_i x hx
    split at hc <;> first | (exfalso; revert hc; simp; done) | skip
    rename_i hnm
    obtain ⟨rfl, rfl, rfl⟩ := outeq hc
    refine mk_law hdom hn hp rfl (by rw [frzs_eff]) hnm (fun m h => frS_K hK h) rfl (fun t d h => by cases h) fun H2 h2 h3 => ?_
    simp only [core, bslI]
    rw [snaps_agr (Agr.to2 h2 (by simp [In.nd])) hK, hvs]
    simp only [hx, h3, frzs_eff]
  | load t =>
    simp only [core, loadI] at hc
    split at hc <;> first | (exfalso; revert hc; simp; done) | skip
    rename_i a
    obtain ⟨d, hd, he⟩ := Option.map_eq_some_iff.1 hc
    obtain ⟨rfl, rfl, rfl⟩ := outeq (congrArg some he)
    refine of_same hn hp rfl (fun n h => ?_) fun H2 h2 => ?_
    · exact (ldI_agr (H2 := H) (fun _ _ => rfl) (hK (.d a) (by simp)) (hbx (by simp [In.nd])) hd).2 n h
    · simp only [core, loadI, (ldI_agr (H2 := H2) (Agr.to2 h2 (by simp [In.nd])) (hK (.d a) (by simp)) (hbx (by simp [In.nd])) hd).1, Option.map_some]
  | store t =>
    simp only [core, storeI] at hc
    split at hc <;> first | (exfalso; revert hc; simp; done) | skip
    rename_i n i p v
    obtain ⟨H1, hd, he⟩ := Option.map_eq_some_iff.1 hc
    obtain ⟨rfl, rfl, rfl⟩ := outeq (congrArg some he)
    have hk : K n := hK _ List.mem_cons_self n (by simp [S.nm, namesD])
    obtain ⟨o, o0, F, h1, h2, h3, h4, h5, h6⟩ := stAt_law hk (fun m hm => hK (.d v) (by simp) m hm) hd
    refine ⟨one n o, F, h1, fun m h => ⟨h4 m h, rfl⟩, fun m p h _ => ⟨by simp [In.wr], fun _ => ?_⟩, fun m h hk' => ?_, fun n h => by simp [S.nm, namesD] at h, fun m t d h n hn => ?_, fun H2 h7 _ => ?_⟩
    · obtain ⟨rfl, rfl⟩ := one_some h; exact ⟨o0, h2, h3⟩
    · rw [one_ne h] at hk'; exact absurd hk hk'
    · exact .inl (h5 t d (one_some h).2.symm n hn)
    · refine act_of hn (c := .tt) ?_ hp
      simp only [core, storeI, h6 H2 h7, Option.map_some]
  | isNil ng =>
    simp only [core, isNilI] at hc
    split at hc <;> first | (exfalso; revert hc; simp; done) | skip
    all_goals
      obtain ⟨rfl, rfl, rfl⟩ := outeq hc
      exact of_same hn hp rfl (fun n h => by simp [S.nm, namesD] at h) fun H2 _ => rfl
  | bin op t =>
    simp only [core, binI] at hc
    split at hc <;> first | (exfalso; revert hc; simp; done) | skip
    split at hc <;> first | (exfalso; revert hc; simp; done) | skip
    rename_i h1 h2
    obtain ⟨r, hd, he⟩ := Option.map_eq_some_iff.1 hc
    obtain ⟨rfl, rfl, rfl⟩ := outeq (congrArg some he)
    refine of_same hn hp rfl (fun n h => by simp [S.nm, namesD] at h) fun H2 _ => ?_
    simp only [core, binI, h1, h2, hd, Option.map_some]
  | neg k =>
    simp only [core, negI] at hc
    split at hc <;> first | (exfalso; revert hc; simp; done) | skip
    rename_i k0 x
    cases hb : Nat.beq (kc k0) (kc k) with
    | false => rw [hb] at hc; cases hc
    | true =>
      rw [hb] at hc
      obtain ⟨rfl, rfl, rfl⟩ := outeq hc
      refine of_same hn hp rfl (fun n h => by simp [S.nm, namesD] at h) fun H2 _ => ?_
      simp only [core, negI, hb, cond_true]
  | not =>
    simp only [core, notI] at hc
    split at hc <;> first | (exfalso; revert hc; simp; done) | skip
    obtain ⟨rfl, rfl, rfl⟩ := outeq hc
    exact of_same hn hp rfl (fun n h => by simp [S.nm, namesD] at h) fun H2 _ => rfl
  | conv k k' =>
    simp only [core, convI] at hc
    split at hc <;> first | (exfalso; revert hc; simp; done) | skip
    obtain ⟨rfl, rfl, rfl⟩ := outeq hc
    exact of_same hn hp rfl (fun n h => by simp [S.nm, namesD] at h) fun H2 _ => rfl
  | mkfn f =>
    simp only [core, mkfnI] at hc
    obtain ⟨ns, hd, he⟩ := Option.map_eq_some_iff.1 hc
    obtain ⟨rfl, rfl, rfl⟩ := outeq (congrArg some he)
    refine of_same hn hp rfl (fun n h => ?_) fun H2 h2 => ?_
    · exact (names_agr (H2 := H) (K := K) (fun _ _ => rfl) hK hd).2 n h
    · simp only [core, mkfnI, (names_agr (H2 := H2) (Agr.to1 h2 (by simp [In.nd])) hK hd).1, Option.map_some]
  | mksl nm e lim =>
    simp only [core, mkslI] at hc
    split at hc <;> first | (exfalso; revert hc; simp; done) | skip
    obtain ⟨h1, rfl, rfl, rfl⟩ := newC_eq hc
    exact of_make hn hdom hp rfl h1 rfl (fun _ _ h => by cases h) fun H2 _ h2 => by simp only [core, mkslI]; exact newC_of h2
  | appz nm e lim =>
    simp only [core, appzI] at hc
    split at hc <;> first | (exfalso; revert hc; simp; done) | skip
    obtain ⟨h1, rfl, rfl, rfl⟩ := newC_eq hc
    exact of_make hn hdom hp rfl h1 rfl (fun _ _ h => by cases h) fun H2 _ h2 => by simp only [core, appzI]; exact newC_of h2
  | fld t0 p t =>
    simp only [core, fldI] at hc
    split at hc <;> first | (exfalso; revert hc; simp; done) | skip
    rename_i t' x
    split at hc <;> first | (exfalso; revert hc; simp; done) | skip
    rename_i v hv
    cases hb : Ty.beq t' t0 with
    | false => rw [hb] at hc; cases hc
    | true =>
      rw [hb] at hc
      obtain ⟨y, hd, he⟩ := Option.map_eq_some_iff.1 hc
      obtain ⟨rfl, rfl, rfl⟩ := outeq (congrArg some he)
      refine of_same hn hp rfl (fun n h => by simp [S.nm, namesD] at h) fun H2 _ => ?_
      simp only [core, fldI, hv, hb, cond_true, hd, Option.map_some]
  | fadr t p =>
    simp only [core, fadrI] at hc
    split at hc <;> first | (exfalso; revert hc; simp; done) | skip
    · rename_i n i q
      have hk : K n := hK _ List.mem_cons_self n (by simp [S.nm, namesD])
      split at hc <;> first | (exfalso; revert hc; simp; done) | skip
      rename_i u t' h1 h2
      cases hb : Ty.beq t' t with
      | false => rw [hb] at hc; cases hc
      | true =>
        rw [hb] at hc
        obtain ⟨rfl, rfl, rfl⟩ := outeq hc
        refine of_same hn hp rfl (fun m h => by simp [S.nm, namesD] at h; subst h; exact hk) fun H2 ha => ?_
        have hs := Agr.to1 ha (by simp [In.nd]) n hk
        have key : (match H2 n with
            | some (.arr e _ _) => subT e q
            | some (.box bt _) => subT bt q
            | _ => none) = some t' := by
          rw [← h2]
          cases h3 : H n with
          | none => rw [h3] at h2; cases h2
          | some o =>
            obtain ⟨o2, h4, h5⟩ := agr_some hs h3
            rw [h4]
            cases o <;> cases o2 <;> simp only [shp, Shp.arr.injEq, Shp.box.injEq, reduceCtorEq] at h5
            · simp only [h5.1]
            · simp only [h5]
            · rfl
        simp only [core, fadrI, h1]
        revert key
        cases H2 n with
        | none => intro key; cases key
        | some o2 => cases o2 with
          | arr e xs l => intro key; simp only at key ⊢; rw [key]; simp only [hb, cond_true]
          | box bt d => intro key; simp only at key ⊢; rw [key]; simp only [hb, cond_true]
          | dead => intro key; cases key
    · rename_i t' x
      split at hc <;> first | (exfalso; revert hc; simp; done) | skip
      rename_i v hv
      cases hb : Ty.beq t' t with
      | false => rw [hb] at hc; cases hc
      | true =>
        rw [hb] at hc
        obtain ⟨rfl, rfl, rfl⟩ := outeq hc
        refine of_same hn hp rfl (fun n h => by simp [S.nm, namesD] at h) fun H2 _ => ?_
        simp only [core, fadrI, hv, hb, cond_true]
  | iadr e =>
    simp only [core, iadrI] at hc
    split at hc <;> first | (exfalso; revert hc; simp; done) | skip
    rename_i d k i
    obtain ⟨r, hd, he⟩ := Option.map_eq_some_iff.1 hc
    obtain ⟨rfl, rfl, rfl⟩ := outeq (congrArg some he)
    refine of_same hn hp rfl (fun n h => ?_) fun H2 h2 => ?_
    · exact (idxI_agr (H2 := H) (K := K) (fun _ _ => rfl) (hK (.d d) (by simp)) hd).2 n h
    · obtain ⟨⟨c', h3, _, rfl⟩, _⟩ := idxI_agr (H2 := H2) (Agr.to1 h2 (by simp [In.nd])) (hK (.d d) (by simp)) hd
      simp only [core, iadrI, h3, Option.map_some]
  | ext j =>
    simp only [core, extI] at hc
    split at hc <;> first | (exfalso; revert hc; simp; done) | skip
    rename_i ds
    split at hc <;> first | (exfalso; revert hc; simp; done) | skip
    rename_i d hd
    obtain ⟨rfl, rfl, rfl⟩ := outeq hc
    refine of_same hn hp rfl (fun n h => hK _ List.mem_cons_self n ?_) fun H2 _ => ?_
    · simp only [S.nm, List.mem_flatMap]; exact ⟨d, List.mem_of_getElem? hd, h⟩
    · simp only [core, extI, hd]
  | len =>
    simp only [core, lenI] at hc
    split at hc <;> first | (exfalso; revert hc; simp; done) | skip
    obtain ⟨r, hd, he⟩ := Option.map_eq_some_iff.1 hc
    obtain ⟨rfl, rfl, rfl⟩ := outeq (congrArg some he)
    refine of_same hn hp rfl (fun n h => by simp [S.nm, namesD] at h) fun H2 h2 => ?_
    simp only [core, lenI, lenOf_agr (Agr.to1 h2 (by simp [In.nd])) (hK (.d _) (by simp)) hd, Option.map_some]
  | cap =>
    simp only [core, capI] at hc
    split at hc <;> first | (exfalso; revert hc; simp; done) | skip
    obtain ⟨rfl, rfl, rfl⟩ := outeq hc
    exact of_same hn hp rfl (fun n h => by simp [S.nm, namesD] at h) fun H2 _ => rfl
  | mm mx k =>
    simp only [core, mmO] at hc
    split at hc <;> first | (exfalso; revert hc; simp; done) | skip
    rename_i k0 a ss'
    cases hb : Nat.beq (kc k0) (kc k) with
    | false => rw [hb] at hc; cases hc
    | true =>
      rw [hb] at hc
      obtain ⟨y, hd, he⟩ := Option.map_eq_some_iff.1 hc
      obtain ⟨rfl, rfl, rfl⟩ := outeq (congrArg some he)
      refine of_same hn hp rfl (fun n h => by simp [S.nm, namesD] at h) fun H2 _ => ?_
      simp only [core, mmO, hb, cond_true, hd, Option.map_some]
  | loadb t =>
    simp only [core, loadbI] at hc
    split at hc <;> first | (exfalso; revert hc; simp; done) | skip
    rename_i n i p m i' p'
    have hk : K n := hK (.d (.ptr n i p)) (by simp) n (by simp [S.nm, namesD])
    cases hb : Nat.beq n m with
    | false => rw [hb] at hc; cases hc
    | true =>
      rw [hb] at hc
      simp only [cond_true] at hc
      split at hc <;> first | (exfalso; revert hc; simp; done) | skip
      rename_i bt d hbn
      split at hc <;> first | (exfalso; revert hc; simp; done) | skip
      rename_i t' x hl
      obtain ⟨rfl, rfl, rfl⟩ := outeq hc
      refine of_same hn hp rfl (fun n h => by simp [S.nm, namesD] at h) fun H2 h2 => ?_
      have h2 := Agr.to2 h2 (by simp [In.nd])
      have hbx2 : H2 n = some (.box bt d) := by
        obtain ⟨o, e1, e2⟩ := agr_some (h2 n hk) hbn
        rw [e1]
        cases o with
        | arr e xs l => cases l <;> simp [fzO] at e2
        | _ => first | (simp [fzO] at e2; done) | (simp [fzO] at e2 ⊢; exact e2)
      have hl2 : ldAt H2 t n i p = some (.val t' x) := (ldI_agr (H2 := H2) (t := t) (a := .ptr n i p) (d := .val t' x) h2 (hK (.d (.ptr n i p)) (by simp)) (hbx (by simp [In.nd])) hl).1
      simp only [core, loadbI, hb, cond_true, hbx2, hl2]
  | storeb t =>
    simp only [core, storebI] at hc
    split at hc <;> first | (exfalso; revert hc; simp; done) | skip
    rename_i n i p v es
    cases hb : es.all (S.other n) with
    | false => rw [hb] at hc; cases hc
    | true =>
      rw [hb] at hc
      obtain ⟨H1, hd, he⟩ := Option.map_eq_some_iff.1 hc
      obtain ⟨rfl, rfl, rfl⟩ := outeq (congrArg some he)
      have hk : K n := hK _ List.mem_cons_self n (by simp [S.nm, namesD])
      obtain ⟨o, o0, F, h1, h2, h3, h4, h5, h6⟩ := stAt_law hk (fun m hm => hK (.d v) (by simp) m hm) hd
      refine ⟨one n o, F, h1, fun m h => ⟨h4 m h, rfl⟩, fun m p h _ => ⟨by simp [In.wr], fun _ => ?_⟩, fun m h hk' => ?_, fun n h => by simp [S.nm, namesD] at h, fun m t d h n hn => ?_, fun H2 h7 _ => ?_⟩
      · obtain ⟨rfl, rfl⟩ := one_some h; exact ⟨o0, h2, h3⟩
      · rw [one_ne h] at hk'; exact absurd hk hk'
      · exact .inl (h5 t d (one_some h).2.symm n hn)
      · refine act_of hn (c := .tt) ?_ hp
        simp only [core, storebI, hb, cond_true, h6 H2 h7, Option.map_some]
  | loadi t =>
    simp only [core, loadiI] at hc
    split at hc <;> first | (exfalso; revert hc; simp; done) | skip
    obtain ⟨y, hd, he⟩ := Option.map_eq_some_iff.1 hc
    obtain ⟨rfl, rfl, rfl⟩ := outeq (congrArg some he)
    refine of_same hn hp rfl (fun n h => by simp [S.nm, namesD] at h) fun H2 _ => ?_
    simp only [core, loadiI, hd, Option.map_some]
  | slice nm m e lo hi mx =>
    simp only [core] at hc
    obtain ⟨d, l, h', k, hmem, h1, h2⟩ := sliceO_inv hc
    have hd : ∀ n ∈ namesD d, K n := fun n hn => hK _ hmem n hn
    cases m with
    | snap =>
      obtain ⟨h3, F, h4, h5, h6⟩ := slice_snap hd h1
      exact of_frz hn hp rfl h4 h5 (fun n h => by rw [h3] at h; cases h) fun H2 h7 => by simp only [core, h2]; exact h6 H2 (Agr.to2 h7 (by simp [In.nd]))
    | view =>
      simp only [sliceI] at h1
      split at h1 <;> first | (exfalso; revert h1; simp; done) | skip
      rename_i n l0
      simp only [viewOf] at h1
      split at h1 <;> first | (exfalso; revert h1; simp; done) | skip
      rename_i e' xs hm
      cases hb : Ty.beq e' e with
      | false => rw [hb] at h1; cases h1
      | true =>
        rw [hb] at h1
        obtain ⟨rfl, rfl, rfl⟩ := outeq h1
        have hk : K n := hd n (by simp [namesD])
        refine of_same hn hp rfl (fun n h => by simp [S.nm, namesD] at h; subst h; exact hk) fun H2 h7 => ?_
        simp only [core, h2, sliceI, viewOf, show H2 n = H n from h7 n hk, hm, hb, cond_true]
    | trunc =>
      simp only [sliceI] at h1
      split at h1 <;> first | (exfalso; revert h1; simp; done) | skip
      rename_i n l0
      simp only [truncAt] at h1
      split at h1 <;> first | (exfalso; revert h1; simp; done) | skip
      rename_i hnm
      split at h1 <;> first | (exfalso; revert h1; simp; done) | skip
      rename_i e' xs hm
      cases hb : Ty.beq e' e with
      | false => rw [hb] at h1; cases h1
      | true =>
        rw [hb] at h1
        obtain ⟨rfl, rfl, rfl⟩ := outeq h1
        have hk : K n := hd n (by simp [namesD])
        have hnk : ¬ K nm := fun h => hdom _ h hnm
        refine of_make2 hn hp rfl (.inr rfl) (upd2_eff n _ nm _ noF H) (fun _ h => by cases h) (fun m h hk' => ?_) (fun n h => ?_) (fun m t d h => ?_) fun H2 h7 h8 => ?_
        · rcases two_ne h with rfl | rfl
          · exact hnm
          · exact absurd hk hk'
        · simp [S.nm, namesD] at h; subst h; right; rw [two_self]; simp
        · rcases two_box h with h | h <;> cases h
        · simp only [core, h2, sliceI, truncAt, show H2 n = H n from h7 n hk, hm, hb, cond_true, h8 nm (by rw [two_self]; simp) hnk]
          exact congrArg (fun z => some (_, _, z)) (upd2_eff n _ nm _ noF H2)
  | slicei e lo hi mx =>
    simp only [core] at hc
    cases hd : ss.all S.dat with
    | false => rw [hd] at hc; cases hc
    | true =>
      rw [hd] at hc
      obtain ⟨d, l, h', k, hmem, h1, h2⟩ := sliceO_inv hc
      obtain ⟨h3, F, h4, h5, h6⟩ := slice_snap (K := fun _ => False) (fun n h => dat_nm hd _ hmem n h) h1
      obtain rfl := noF_of h5
      refine of_same hn hp h4 (fun n h => by rw [h3] at h; cases h) fun H2 _ => ?_
      simp only [core, hd, cond_true, h2]
      exact h6 H2 (fun _ h => h.elim)
  | bsli nm e len ix =>
    simp only [core] at hc
    cases hd : ss.all S.dat with
    | false => rw [hd] at hc; cases hc
    | true =>
      rw [hd] at hc
      simp only [cond_true, bslI] at hc
      split at hc <;> first | (exfalso; revert hc; simp; done) | skip
      rename_i vs hvs
      split at hc <;> first | (exfalso; revert hc; simp; done) | skip
      rename_i x hx
      split at hc <;> first | (exfalso; revert hc; simp; done) | skip
      rename_i hnm
      obtain ⟨rfl, rfl, rfl⟩ := outeq hc
      have hF : frS ss = noF := noF_of fun m h => by obtain ⟨s, h1, h2⟩ := frS_names h; exact dat_nm hd s h1 m h2
      refine of_make hn hdom hp (by rw [frzs_eff, hF, eff_nil]) hnm rfl (fun t d h => by cases h) fun H2 _ h3 => ?_
      simp only [core, hd, cond_true, bslI]
      rw [snaps_agr (K := fun _ => False) (H := H) (fun _ h => h.elim) (dat_nm hd), hvs]
      simp only [hx, h3, frzs_eff, hF, eff_nil]
  | app nm e lim =>
    simp only [core, appO] at hc
    split at hc <;> first | (exfalso; revert hc; simp; done) | skip
    rename_i s x
    split at hc <;> first | (exfalso; revert hc; simp; done) | skip
    rename_i ys hy
    have hx : ∀ n ∈ namesD x, K n := fun n hn => hK (.d x) (by simp) n hn
    have hF : ∀ m, frD x m = true → K m := fun m h => hx m (frD_names h)
    have hs2 : ∀ H2, (∀ n, K n → H2 n = H n) → snap H2 (.sl e) x = some ys := fun H2 h => by rw [snap_agr (fun n hn => congrArg (Option.map fzO) (h n hn)) hx, hy]
    cases s with
    | nil =>
      simp only [appI] at hc
      split at hc <;> first | (exfalso; revert hc; simp; done) | skip
      rename_i hnm
      obtain ⟨rfl, rfl, rfl⟩ := outeq hc
      have hnk : ¬ K nm := fun h => hdom _ h hnm
      refine of_make2 (N := one nm (.arr e ys .lv)) (F := frD x) hn hp rfl (.inl rfl) (by rw [frz_eff, upd_eff]) hF (fun m h _ => by rw [one_ne h]; exact hnm) (fun n h => ?_) (fun m t d h => by have := (one_some h).2; cases this) fun H2 h7 h8 => ?_
      · simp [S.nm, namesD] at h; subst h; right; rw [one_self]; simp
      · simp only [core, appO, hs2 H2 h7, appI, h8 nm (by rw [one_self]; simp) hnk]
        rw [frz_eff, upd_eff]
    | ref n =>
      have hk : K n := hK (.d (.ref n)) (by simp) n (by simp [S.nm, namesD])
      simp only [appI] at hc
      split at hc <;> first | (exfalso; revert hc; simp; done) | skip
      rename_i e' xs hm hnm
      split at hc <;> first | (exfalso; revert hc; simp; done) | skip
      rename_i xs' hcast
      obtain ⟨rfl, rfl, rfl⟩ := outeq hc
      have hnk : ¬ K nm := fun h => hdom _ h hnm
      refine of_make2 (N := two n .dead nm (.arr e (xs' ++ ys) .lv)) (F := frD x) hn hp rfl (.inl rfl) (by rw [frz_eff, upd2_eff]) hF (fun m h hk' => ?_) (fun n h => ?_) (fun m t d h => by rcases two_box h with h | h <;> cases h) fun H2 h7 h8 => ?_
      · rcases two_ne h with rfl | rfl
        · exact hnm
        · exact absurd hk hk'
      · simp [S.nm, namesD] at h; subst h; right; rw [two_self]; simp
      · have hm2 : frz H2 x n = some (.arr e' xs .lv) := by
          rw [← hm, frz_eff, frz_eff]; simp only [eff, show H2 n = H n from h7 n hk]
        simp only [core, appO, hs2 H2 h7, appI, hm2, h8 nm (by rw [two_self]; simp) hnk, hcast]
        rw [frz_eff, upd2_eff]
    | fsl e' xs =>
      simp only [appI] at hc
      split at hc <;> first | (exfalso; revert hc; simp; done) | skip
      rename_i xs' hcast
      obtain ⟨rfl, rfl, rfl⟩ := outeq hc
      refine of_frz hn hp rfl (frz_eff _ _) hF (fun n h => by simp [S.nm, namesD] at h) fun H2 h7 => ?_
      simp only [core, appO, hs2 H2 h7, appI, hcast, frz_eff]
    | _ => simp [appI] at hc
  | copy e =>
    simp only [core, copyO] at hc
    split at hc <;> first | (exfalso; revert hc; simp; done) | skip
    rename_i d x
    split at hc <;> first | (exfalso; revert hc; simp; done) | skip
    rename_i ys hy
    have hx : ∀ n ∈ namesD x, K n := fun n hn => hK (.d x) (by simp) n hn
    have hF : ∀ m, frD x m = true → K m := fun m h => hx m (frD_names h)
    have hs2 : ∀ H2, (∀ n, K n → H2 n = H n) → snap H2 (.sl e) x = some ys := fun H2 h => by rw [snap_agr (fun n hn => congrArg (Option.map fzO) (h n hn)) hx, hy]
    have key : ∀ (n : Nat) (e' : Ty) (xs : List e'.I) (xs' : List e.I) (l : Nat), K n → frz H x n = some (.arr e' xs .lv) → castT (.sl e') (.sl e) xs = some xs' → ∃ o0, H n = some o0 ∧ shp (.arr e (copyTo xs' l ys) .lv) = shp o0 := by
      intro n e' xs xs' l hk hm hcast
      rw [frz_eff] at hm
      obtain ⟨h1, h2⟩ := castT_some hcast
      cases h1
      obtain rfl : xs = xs' := h2
      have hlen : (copyTo xs l ys).length = xs.length := copyTo_len xs ys l
      simp only [eff, nil] at hm
      cases hb : frD x n with
      | false => rw [hb] at hm; exact ⟨_, hm, by simp only [shp, hlen]⟩
      | true =>
        rw [hb] at hm
        simp only [cond_true, Option.map_eq_some_iff] at hm
        obtain ⟨o0, h1, h2⟩ := hm
        have := congrArg shp h2
        rw [shp_fzO] at this
        exact ⟨o0, h1, by rw [this]; simp only [shp, hlen]⟩
    cases d with
    | ref n =>
      have hk : K n := hK (.d (.ref n)) (by simp) n (by simp [S.nm, namesD])
      simp only [copyI] at hc
      split at hc <;> first | (exfalso; revert hc; simp; done) | skip
      rename_i e' xs hm
      split at hc <;> first | (exfalso; revert hc; simp; done) | skip
      rename_i xs' hcast
      obtain ⟨rfl, rfl, rfl⟩ := outeq hc
      obtain ⟨o0, k1, k2⟩ := key n e' xs xs' 0 hk hm hcast
      refine ⟨one n (.arr e (copyTo xs' 0 ys) .lv), frD x, by rw [frz_eff, upd_eff], fun m h => ⟨hF m h, rfl⟩, fun m p h _ => ⟨by simp [In.wr], fun _ => ?_⟩, fun m h hk' => ?_, fun n h => by simp [S.nm, namesD] at h, fun m t d h n hn => ?_, fun H2 h7 _ => ?_⟩
      · obtain ⟨rfl, rfl⟩ := one_some h; exact ⟨o0, k1, k2⟩
      · rw [one_ne h] at hk'; exact absurd hk hk'
      · have := (one_some h).2; cases this
      · have hm2 : frz H2 x n = some (.arr e' xs .lv) := by
          rw [← hm, frz_eff, frz_eff]; simp only [eff, show H2 n = H n from h7 n hk]
        refine act_of hn (c := .tt) ?_ hp
        simp only [core, copyO, hs2 H2 h7, copyI, hm2, hcast]
        rw [frz_eff, upd_eff]
    | view n l =>
      have hk : K n := hK (.d (.view n l)) (by simp) n (by simp [S.nm, namesD])
      simp only [copyI] at hc
      split at hc <;> first | (exfalso; revert hc; simp; done) | skip
      rename_i e' xs hm
      split at hc <;> first | (exfalso; revert hc; simp; done) | skip
      rename_i xs' hcast
      obtain ⟨rfl, rfl, rfl⟩ := outeq hc
      obtain ⟨o0, k1, k2⟩ := key n e' xs xs' l hk hm hcast
      refine ⟨one n (.arr e (copyTo xs' l ys) .lv), frD x, by rw [frz_eff, upd_eff], fun m h => ⟨hF m h, rfl⟩, fun m p h _ => ⟨by simp [In.wr], fun _ => ?_⟩, fun m h hk' => ?_, fun n h => by simp [S.nm, namesD] at h, fun m t d h n hn => ?_, fun H2 h7 _ => ?_⟩
      · obtain ⟨rfl, rfl⟩ := one_some h; exact ⟨o0, k1, k2⟩
      · rw [one_ne h] at hk'; exact absurd hk hk'
      · have := (one_some h).2; cases this
      · have hm2 : frz H2 x n = some (.arr e' xs .lv) := by
          rw [← hm, frz_eff, frz_eff]; simp only [eff, show H2 n = H n from h7 n hk]
        refine act_of hn (c := .tt) ?_ hp
        simp only [core, copyO, hs2 H2 h7, copyI, hm2, hcast]
        rw [frz_eff, upd_eff]
    | _ => simp [copyI] at hc
  | call nm f rs io => exact absurd rfl (hn _ _ _ _)
end
end Pm
end
section
/- The law of a call; operations that have nothing to do with each other change places. -/
namespace Pm
open Go Go.RowKit
section
variable {K : Nat → Prop} {H : Hp} {ss : List S} {C : CallF}

theorem box_agr {H2 : Hp} {n : Nat} {t : Ty} {d : D} (h : (H2 n).map fzO = (H n).map fzO) (hn : H n = some (.box t d)) : H2 n = some (.box t d) := by
  obtain ⟨o, h1, h2⟩ := agr_some h hn
  rw [h1]
  cases o with
  | arr e xs l => cases l <;> simp [fzO] at h2
  | _ => first | (simp [fzO] at h2; done) | (simp [fzO] at h2 ⊢; exact h2)
theorem capI_agr {H2 : Hp} (h : ∀ n, K n → (H2 n).map fzO = (H n).map fzO) (hbx : ∀ n t d, K n → H n = some (.box t d) → ∀ m ∈ namesD d, K m) : ∀ {caps : List Nat} {l : List TV}, (∀ n ∈ caps, K n) → argD.capI H caps = some l → argD.capI H2 caps = some l
  | [], l, _, hl => hl
  | n :: ns, l, hk, hl => by
    simp only [argD.capI] at hl ⊢
    split at hl <;> first | (exfalso; revert hl; simp; done) | skip
    rename_i t d hn
    have kn := hk n List.mem_cons_self
    rw [box_agr (h n kn) hn]
    simp only
    split at hl <;> first | (exfalso; revert hl; simp; done) | skip
    rename_i x l' h1 h2
    rw [snap_agr h (hbx n t d kn hn), h1, capI_agr h hbx (fun m hm => hk m (List.mem_cons_of_mem _ hm)) h2]
    exact hl
theorem argD_agr {H2 : Hp} (h : ∀ n, K n → (H2 n).map fzO = (H n).map fzO) (hbx : ∀ n t d, K n → H n = some (.box t d) → ∀ m ∈ namesD d, K m) {d d' : D} (hd : ∀ n ∈ namesD d, K n) (ha : argD H d = some d') : argD H2 d = some d' := by
  cases d with
  | ref n =>
    have hk := hd n (by simp [namesD])
    simp only [argD] at ha ⊢
    cases hn : H n with
    | none => rw [hn] at ha; cases ha
    | some o =>
      rw [hn] at ha
      obtain ⟨o2, h1, h2⟩ := agr_some (h n hk) hn
      rw [h1]
      cases o with
      | arr e xs l => cases o2 with
        | arr e2 xs2 l2 => cases l <;> cases l2 <;> simp only [fzO, Ob.arr.injEq] at h2 <;> first | (obtain ⟨rfl, h2, _⟩ := h2; cases h2; exact ha) | (exfalso; simp at h2; done)
        | _ => cases l <;> simp [fzO] at h2
      | _ => cases ha
  | ptr n i p =>
    have hk := hd n (by simp [namesD])
    cases i with
    | succ => simp [argD] at ha
    | zero => cases p with
      | cons => simp [argD] at ha
      | nil =>
        simp only [argD] at ha ⊢
        split at ha <;> first | (exfalso; revert ha; simp; done) | skip
        rename_i t d0 hn
        rw [box_agr (h n hk) hn]
        simp only
        rw [snap_agr h (hbx n t d0 hk hn)]
        exact ha
  | clo f caps =>
    simp only [argD, Option.map_eq_some_iff] at ha ⊢
    obtain ⟨l, h1, h2⟩ := ha
    exact ⟨l, capI_agr h hbx hd h1, h2⟩
  | _ => exact ha
theorem argDs_agr {H2 : Hp} (h : ∀ n, K n → (H2 n).map fzO = (H n).map fzO) (hbx : ∀ n t d, K n → H n = some (.box t d) → ∀ m ∈ namesD d, K m) : ∀ {ss : List S} {as : List D}, (∀ s ∈ ss, ∀ n ∈ s.nm, K n) → argDs H ss = some as → argDs H2 ss = some as
  | [], as, _, ha => ha
  | .d d :: ss, as, hd, ha => by
    simp only [argDs] at ha ⊢
    split at ha <;> first | (exfalso; revert ha; simp; done) | skip
    rename_i x xs h1 h2
    rw [argD_agr h hbx (hd (.d d) List.mem_cons_self) h1, argDs_agr h hbx (fun s hs => hd s (List.mem_cons_of_mem _ hs)) h2]
    exact ha
  | .tup _ :: _, _, _, ha => by simp [argDs] at ha

def both (N M : Hp) : Hp := fun m => match N m with
  | some o => some o
  | none => M m
theorem eff_both {N M : Hp} (h : ∀ m, M m ≠ none → N m = none) (H : Hp) : eff M noF (eff N noF H) = eff (both N M) noF H := by
  funext m
  simp only [eff, both, noF, cond_false]
  cases h1 : N m with
  | none => cases h2 : M m <;> simp
  | some o =>
    cases h2 : M m with
    | none => simp
    | some p => have := h m (by simp [h2]); rw [h1] at this; cases this
structure PutsE (nm : Nat) (H : Hp) (rs : List RT) (r : RI rs) (H1 N : Hp) : Prop where
  h : H1 = eff N noF H
  new : ∀ m, N m ≠ none → H m = none
  arr : ∀ m t d, N m ≠ some (.box t d)
  nms : ∀ d ∈ imps nm rs r, ∀ n ∈ namesD d, N n ≠ none
  go : ∀ H2, (∀ m, N m ≠ none → H2 m = none) → puts nm H2 rs r = some (eff N noF H2)
theorem put1_eff {nm : Nat} {rt : RT} {x : rt.I} {H1 : Hp} (h : put1 nm H rt x = some H1) : ∃ N, H1 = eff N noF H ∧ (∀ m, N m ≠ none → H m = none) ∧ (∀ m t d, N m ≠ some (.box t d)) ∧ (∀ n ∈ namesD (imp1 nm rt x), N n ≠ none) ∧ ∀ H2, (∀ m, N m ≠ none → H2 m = none) → put1 nm H2 rt x = some (eff N noF H2) := by
  cases rt with
  | v t =>
    simp only [put1, Option.some.injEq] at h
    subst h
    exact ⟨nil, rfl, fun _ h => absurd rfl h, fun _ _ _ h => (by cases h), fun n hn => (by simp [imp1, namesD] at hn), fun _ _ => rfl⟩
  | o e =>
    simp only [put1] at h
    split at h <;> first | (exfalso; revert h; simp; done) | skip
    rename_i hn
    simp only [Option.some.injEq] at h
    subst h
    refine ⟨one nm (.arr e x .lv), upd_eff nm _ noF H, fun m hm => by rw [one_ne hm]; exact hn, fun m t d hm => (by have := (one_some hm).2; cases this), fun n hm => ?_, fun H2 h2 => ?_⟩
    · simp [imp1, namesD] at hm; subst hm; rw [one_self]; simp
    · simp only [put1, h2 nm (by rw [one_self]; simp)]
      exact congrArg some (upd_eff nm _ noF H2)
theorem puts_eff : ∀ {rs : List RT} {r : RI rs} {nm : Nat} {H H1 : Hp}, puts nm H rs r = some H1 → ∃ N, PutsE nm H rs r H1 N
  | [], _, _, H, H1, h => by
    simp only [puts, Option.some.injEq] at h
    subst h
    exact ⟨nil, rfl, fun _ h => absurd rfl h, fun _ _ _ h => (by cases h), fun d hd => (by simp [imps] at hd), fun _ _ => rfl⟩
  | [rt], x, nm, H, H1, h => by
    obtain ⟨N, h1, h2, h3, h4, h5⟩ := put1_eff h
    exact ⟨N, h1, h2, h3, fun d hd => (by simp [imps] at hd; subst hd; exact h4), h5⟩
  | rt :: st :: rs, x, nm, H, H1, h => by
    simp only [puts] at h
    split at h <;> first | (exfalso; revert h; simp; done) | skip
    rename_i Hm hm
    obtain ⟨N, h1, h2, h3, h4, h5⟩ := put1_eff hm
    obtain ⟨M, k1, k2, k3, k4, k5⟩ := puts_eff h
    subst h1
    have hd : ∀ m, M m ≠ none → N m = none := fun m hm => by
      have := k2 m hm
      simp only [eff] at this
      cases hN : N m with
      | none => rfl
      | some o => rw [hN] at this; cases this
    have hH : ∀ m, M m ≠ none → H m = none := fun m hm => by
      have := k2 m hm
      simp only [eff, hd m hm, noF, cond_false] at this
      exact this
    have bN : ∀ m, both N M m ≠ none → N m ≠ none ∨ M m ≠ none := fun m hm => by
      simp only [both] at hm
      cases hN : N m with
      | none => rw [hN] at hm; exact .inr hm
      | some o => exact .inl (by simp)
    have Nb : ∀ m, N m ≠ none → both N M m ≠ none := fun m hm => by
      simp only [both]
      cases hN : N m with
      | none => exact absurd hN hm
      | some o => simp
    have Mb : ∀ m, M m ≠ none → both N M m ≠ none := fun m hm => by simp only [both, hd m hm]; exact hm
    refine ⟨both N M, by rw [k1, eff_both hd], fun m hm => (bN m hm).elim (h2 m) (hH m), fun m t d hm => ?_, fun d hd' n hn => ?_, fun H2 h6 => ?_⟩
    · simp only [both] at hm
      cases hN : N m with
      | none => rw [hN] at hm; exact k3 m t d hm
      | some o => rw [hN] at hm; simp only [Option.some.injEq] at hm; subst hm; exact h3 m t d hN
    · simp only [imps, List.mem_cons] at hd'
      rcases hd' with rfl | hd'
      · exact Nb n (h4 n hn)
      · exact Mb n (k4 d hd' n hn)
    · simp only [puts, h5 H2 fun m hm => h6 m (Nb m hm)]
      rw [k5 (eff N noF H2) fun m hm => by simp only [eff, hd m hm, noF, cond_false]; exact h6 m (Mb m hm), eff_both hd]
theorem retS_nm {ds : List D} {n : Nat} (h : n ∈ (retS ds).nm) : ∃ d ∈ ds, n ∈ namesD d := by
  match ds with
  | [] => simp [retS, S.nm] at h
  | [d] => exact ⟨d, by simp, h⟩
  | a :: b :: ds => simp only [retS, S.nm, List.mem_flatMap] at h; exact h
theorem eff_after (N : Hp) (F : Nat → Bool) (H : Hp) : eff N noF (eff nil F H) = eff N F H := rfl
theorem eff_dom {F : Nat → Bool} {m : Nat} : eff nil F H m = none ↔ H m = none := by
  simp only [eff, nil]
  cases F m <;> simp
theorem puts_law {nm : Nat} {f : Option Nat} {rs : List RT} {io : Bool} (hio : io = false) (hdom : ∀ n, K n → H n ≠ none) {rt : List RT} {r : RI rt} {F : Nat → Bool} (hF : ∀ m, F m = true → K m) {s : S} {H' : Hp}
    (h : (puts nm (eff nil F H) rt r).map (fun H1 => (retS (imps nm rt r), H1)) = some (s, H'))
    (hgo : ∀ H2, Agr 2 K H H2 → actI C (.call nm f rs io) H2 ss = (puts nm (eff nil F H2) rt r).map (fun H1 => (retS (imps nm rt r), H1))) : LawOf C (.call nm f rs io) K ss H s H' := by
  subst hio
  obtain ⟨H1, hp, he⟩ := Option.map_eq_some_iff.1 h
  simp only [Prod.mk.injEq] at he
  obtain ⟨rfl, rfl⟩ := he
  obtain ⟨N, h1, h2, h3, h4, h5⟩ := puts_eff hp
  refine ⟨N, F, by rw [h1]; rfl, fun m hm => ⟨hF m hm, rfl⟩, fun m o hm hk => ?_, fun m hm _ => eff_dom.1 (h2 m hm), fun n hn => ?_, fun m t d hm => absurd hm (h3 m t d), fun H2 h6 h7 => ?_⟩
  · exact absurd (eff_dom.1 (h2 m (by simp [hm]))) (hdom m hk)
  · obtain ⟨d, hd, hn⟩ := retS_nm hn
    exact .inr (h4 d hd n hn)
  · rw [hgo H2 h6, h5 (eff nil F H2) fun m hm => eff_dom.2 (h7 m hm fun hk => hdom m hk (eff_dom.1 (h2 m hm)))]
    rfl
theorem call_law (hdom : ∀ n, K n → H n ≠ none) (hK : ∀ s ∈ ss, ∀ n ∈ s.nm, K n) {nm : Nat} {f : Option Nat} {rs : List RT} {io : Bool} (hbx0 : 2 ≤ (In.call nm f rs io).nd → ∀ n t d, K n → H n = some (.box t d) → ∀ m ∈ namesD d, K m) {s : S} {H' : Hp} (h : actI C (.call nm f rs io) H ss = some (s, H')) : LawOf C (.call nm f rs io) K ss H s H' := by
  have hbx := hbx0 (by cases io <;> simp [In.nd])
  clear hbx0
  simp only [actI] at h
  split at h <;> first | (exfalso; revert h; simp; done) | skip
  rename_i c hc
  obtain ⟨r, hr, hfin⟩ := Option.bind_eq_some_iff.1 h
  cases io with
  | false =>
    cases f with
    | some g =>
      simp only [callI] at hc
      split at hc <;> first | (exfalso; revert hc; simp; done) | skip
      rename_i as has
      cases hb : (rs.any RT.sl && !ss.all S.plain) with
      | true => rw [hb] at hc; cases hc
      | false =>
        rw [hb] at hc
        simp only [cond_false, Option.some.injEq] at hc
        subst hc
        simp only at hr hfin r
        let F : Nat → Bool := fun m => rs.any RT.sl && frS ss m
        have hFe : ∀ H : Hp, cond (rs.any RT.sl) (frzs H ss) H = eff nil F H := fun H => by
          cases hs : rs.any RT.sl with
          | true => simp only [cond_true, frzs_eff, F, hs, Bool.true_and]
          | false => simp only [cond_false, F, hs, Bool.false_and]; rfl
        rw [hFe] at hfin
        refine puts_law rfl hdom (F := F) (fun m hm => ?_) hfin fun H2 h2 => ?_
        · simp only [F, Bool.and_eq_true] at hm; exact frS_K hK hm.2
        · simp only [actI, callI, argDs_agr (Agr.to2 h2 (Nat.le_refl 2)) hbx hK has, hb, cond_false, hr, Option.bind_some, hFe]
    | none =>
      simp only [callI] at hc
      split at hc <;> first | (exfalso; revert hc; simp; done) | skip
      rename_i cd ss'
      split at hc <;> first | (exfalso; revert hc; simp; done) | skip
      rename_i g l as hcl has
      cases hsl : rs.any RT.sl with
      | true => rw [hsl] at hc; cases hc
      | false =>
        rw [hsl] at hc
        simp only [cond_false, Option.some.injEq] at hc
        subst hc
        simp only at hr hfin r
        refine puts_law rfl hdom (F := noF) (fun m hm => by cases hm) hfin fun H2 h2 => ?_
        have a2 := Agr.to2 h2 (Nat.le_refl 2)
        simp only [actI, callI, argD_agr a2 hbx (hK (.d cd) List.mem_cons_self) hcl, argDs_agr a2 hbx (fun s hs => hK s (List.mem_cons_of_mem _ hs)) has, hsl, cond_false, hr, Option.bind_some]
        rfl
  | true =>
    simp only [callI] at hc
    split at hc <;> first | (exfalso; revert hc; simp; done) | skip
    rename_i g n
    split at hc <;> first | (exfalso; revert hc; simp; done) | skip
    rename_i e xs hm
    simp only [Option.some.injEq] at hc
    subst hc
    simp only [Option.some.injEq, Prod.mk.injEq] at hfin hr r
    obtain ⟨rfl, rfl⟩ := hfin
    have hk : K n := hK _ List.mem_cons_self n (by simp [S.nm, namesD])
    refine ⟨one n (.arr e r .lv), noF, upd_eff n _ noF H, fun m hm => (by cases hm), fun m o hm hk => ⟨by simp [In.wr], fun h => by simp [In.wr] at h⟩, fun m hm hk' => (by rw [one_ne hm] at hk'; exact absurd hk hk'), fun n hn => (by simp [S.nm, namesD] at hn), fun m t d hm => (by have := (one_some hm).2; cases this), fun H2 h2 _ => ?_⟩
    simp only [actI, callI, show H2 n = H n from h2 n hk, hm, hr, Option.bind_some]
    exact congrArg (fun z => some (_, z)) (upd_eff n _ noF H2)
theorem law (hdom : ∀ n, K n → H n ≠ none) (hK : ∀ s ∈ ss, ∀ n ∈ s.nm, K n) {i : In} (hbx : 2 ≤ i.nd → ∀ n t d, K n → H n = some (.box t d) → ∀ m ∈ namesD d, K m) {s : S} {H' : Hp} (h : actI C i H ss = some (s, H')) : LawOf C i K ss H s H' := by
  by_cases hn : ∃ nm f rs io, i = .call nm f rs io
  · obtain ⟨nm, f, rs, io, rfl⟩ := hn
    exact call_law hdom hK hbx h
  · exact core_law hdom hK hbx (fun nm f rs io he => hn ⟨nm, f, rs, io, he⟩) h
end
end Pm
end
section
/- Operations that have nothing to do with each other change places. -/
namespace Pm
open Go Go.RowKit

def Cl (tm : List S) (H : Hp) : Prop := (∀ s ∈ tm, ∀ n ∈ s.nm, H n ≠ none) ∧ ∀ n t d, H n = some (.box t d) → ∀ m ∈ namesD d, H m ≠ none
def hasX (x : X) (k : Nat) : Bool := match x with
  | .t n => Nat.beq n k
  | _ => false
def Op.reads (o : Op) (k : Nat) : Bool := o.xs.any (fun x => hasX x k) || match o.grd with
  | some (j, _) => Nat.beq j k
  | none => false
def slotB (x y : Op) : Bool :=
  (match x.dst with
   | some d => !y.reads d && (match y.dst with | some e => !Nat.beq d e | none => true)
   | none => true) &&
  (match y.dst with
   | some d => !x.reads d
   | none => true)
def commA (i j : In) : Bool := cond (Nat.beq i.wr 0) true (!j.fz && Nat.ble j.nd (cond (Nat.beq i.wr 1) 1 0))
def commB (i j : In) : Bool := Nat.ble i.nd 2 || !j.fz
def commI (i j : In) : Bool := (Nat.beq i.wr 0 || Nat.beq j.wr 0) && commA i j && commA j i && commB i j && commB j i

/-- A load of one variable of the call's own, a store into another. -/
def apartB (x y : Op) : Bool := match x.i, x.xs, y.i with
  | .loadb _, [_, .t b], .storeb _ => (y.xs.drop 2).any fun z => hasX z b
  | .loadb _, _, .app _ _ _ => true
  | _, _, _ => false
def mayB (x y : Op) : Bool := commI x.i y.i || apartB x y || apartB y x

section
variable {H : Hp} {C : CallF}
theorem dom_eff {N : Hp} {F : Nat → Bool} {n : Nat} (h : H n ≠ none) : eff N F H n ≠ none := by
  simp only [eff]
  cases N n with
  | some o => simp
  | none => cases F n <;> simp [h]
theorem swap_act {i j : In} {ssi ssj : List S} {si sj : S} {H1 H2 : Hp} (hi : ∀ s ∈ ssi, ∀ n ∈ s.nm, H n ≠ none) (hj : ∀ s ∈ ssj, ∀ n ∈ s.nm, H n ≠ none)
    (hcl : ∀ n t d, H n = some (.box t d) → ∀ m ∈ namesD d, H m ≠ none) (hc : commI i j = true) (h1 : actI C i H ssi = some (si, H1)) (h2 : actI C j H1 ssj = some (sj, H2)) :
    ∃ Hj, actI C j H ssj = some (sj, Hj) ∧ actI C i Hj ssi = some (si, H2) := by
  simp only [commI, Bool.and_eq_true, Bool.or_eq_true, Nat.beq_eq] at hc
  obtain ⟨⟨⟨⟨hw, hA1⟩, hA2⟩, hB1⟩, hB2⟩ := hc
  simp only [commB, Bool.or_eq_true, Nat.ble_eq, Bool.not_eq_true'] at hB1 hB2
  have hA : ∀ i j : In, commA i j = true → i.wr ≠ 0 → j.fz = false ∧ j.nd ≤ 1 ∧ (i.wr ≠ 1 → j.nd = 0) := fun i j h hw => by
    unfold commA at h
    cases hb : Nat.beq i.wr 0 with
    | true => exact absurd (Nat.eq_of_beq_eq_true hb) hw
    | false =>
      rw [hb] at h
      simp only [cond_false, Bool.and_eq_true, Bool.not_eq_true', Nat.ble_eq] at h
      cases hb1 : Nat.beq i.wr 1 with
      | true => rw [hb1] at h; exact ⟨h.1, h.2, fun h' => absurd (Nat.eq_of_beq_eq_true hb1) h'⟩
      | false => rw [hb1] at h; simp only [cond_false, Nat.le_zero_eq] at h; exact ⟨h.1, by omega, fun _ => h.2⟩
  have A1 := hA i j hA1
  have A2 := hA j i hA2
  obtain ⟨Ni, Fi, Li⟩ := law (K := fun n => H n ≠ none) (fun _ h => h) hi (fun _ n t d _ hn => hcl n t d hn) h1
  have hH1 := Li.h
  have Niz : i.wr = 0 → ∀ m, H m ≠ none → Ni m = none := fun hz m hm => by
    cases hN : Ni m with
    | none => rfl
    | some o => exact absurd hz (Li.hK m o hN hm).1
  have Fiz : i.fz = false → ∀ m, Fi m = false := fun hz m => by
    cases hF : Fi m with
    | false => rfl
    | true => have := (Li.hF m hF).2; rw [hz] at this; cases this
  have H1at : i.wr = 0 → ∀ m, H m ≠ none → H1 m = cond (Fi m) ((H m).map fzO) (H m) := fun hz m hm => by rw [hH1]; simp only [eff, Niz hz m hm]
  have hbx1 : 2 ≤ j.nd → ∀ n t d, H n ≠ none → H1 n = some (.box t d) → ∀ m ∈ namesD d, H m ≠ none := fun h2n n t d hn hb => by
    have hz : i.wr = 0 := by
      rcases Nat.eq_zero_or_pos i.wr with h | h
      · exact h
      · have := (A1 (by omega)).2.1; omega
    rw [H1at hz n hn] at hb
    cases hF : Fi n with
    | false => rw [hF] at hb; exact hcl n t d hb
    | true =>
      rw [hF] at hb
      simp only [cond_true, Option.map_eq_some_iff] at hb
      obtain ⟨o, ho, hb⟩ := hb
      have : o = .box t d := by
        cases o with
        | arr e xs l => cases l <;> simp [fzO] at hb
        | _ => first | (simp [fzO] at hb; done) | (simp [fzO] at hb ⊢; exact hb)
      exact hcl n t d (by rw [ho, this])
  obtain ⟨Nj, Fj, Lj⟩ := law (K := fun n => H n ≠ none) (H := H1) (fun n hn => by rw [hH1]; exact dom_eff hn) hj hbx1 h2
  have Njz : j.wr = 0 → ∀ m, H m ≠ none → Nj m = none := fun hz m hm => by
    cases hN : Nj m with
    | none => rfl
    | some o => exact absurd hz (Lj.hK m o hN hm).1
  have Fjz : j.fz = false → ∀ m, Fj m = false := fun hz m => by
    cases hF : Fj m with
    | false => rfl
    | true => have := (Lj.hF m hF).2; rw [hz] at this; cases this
  have hfzm : ∀ (b : Bool) (o : Option Ob), (cond b (o.map fzO) o).map fzO = o.map fzO := fun b o => by
    cases b with
    | false => rfl
    | true => cases o <;> simp [fzO_fzO]
  have hshm : ∀ (b : Bool) (o : Option Ob), (cond b (o.map fzO) o).map shp = o.map shp := fun b o => by
    cases b with
    | false => rfl
    | true => cases o <;> simp [shp_fzO]
  -- j at the first memory
  have s1 : Agr j.nd (fun n => H n ≠ none) H1 H := by
    by_cases hz : i.wr = 0
    · by_cases h3 : j.nd ≤ 2
      · exact Agr.of2 (fun n hn => by rw [H1at hz n hn, hfzm]) _ h3
      · have hf := Fiz (hB2.resolve_left h3)
        exact Agr.of3 (fun n hn => by rw [H1at hz n hn, hf]; rfl) _
    · obtain ⟨k1, k2, k3⟩ := A1 hz
      by_cases ho : i.wr = 1
      · refine Agr.of1 (fun n hn => ?_) _ k2
        rw [hH1]
        simp only [eff]
        cases hN : Ni n with
        | some o =>
          obtain ⟨o0, e1, e2⟩ := (Li.hK n o hN hn).2 ho
          simp only [e1, Option.map_some, e2]
        | none => simp only [hshm]
      · rw [k3 ho]; trivial
  have a1 := Lj.go H s1 (fun m _ hk => by cases hm : H m with
    | none => rfl
    | some o => exact absurd (by simp [hm]) hk)
  -- names that j makes are not those that i makes
  have apart : ∀ m, H m = none → Nj m ≠ none → Ni m = none := fun m hm hN => by
    have := Lj.hN m hN (by simp [hm])
    rw [hH1] at this
    simp only [eff] at this
    cases hNi : Ni m with
    | none => rfl
    | some o => rw [hNi] at this; cases this
  have s2 : Agr i.nd (fun n => H n ≠ none) H (eff Nj Fj H) := by
    by_cases hz : j.wr = 0
    · by_cases h3 : i.nd ≤ 2
      · exact Agr.of2 (fun n hn => by simp only [eff, Njz hz n hn, hfzm]) _ h3
      · have hf := Fjz (hB1.resolve_left h3)
        exact Agr.of3 (fun n hn => by simp only [eff, Njz hz n hn, hf, cond_false]) _
    · obtain ⟨k1, k2, k3⟩ := A2 hz
      by_cases ho : j.wr = 1
      · refine Agr.of1 (fun n hn => ?_) _ k2
        simp only [eff]
        cases hN : Nj n with
        | some o =>
          obtain ⟨o0, e1, e2⟩ := (Lj.hK n o hN hn).2 ho
          rw [H1at (hw.resolve_right hz) n hn] at e1
          have := congrArg (Option.map shp) e1
          rw [hshm] at this
          rw [this]; simp only [Option.map_some, e2]
        | none => simp only [hshm]
      · rw [k3 ho]; trivial
  have a2 := Li.go (eff Nj Fj H) s2 (fun m hN hk => by
    have hm : H m = none := by
      cases hm : H m with
      | none => rfl
      | some o => exact absurd (by simp [hm]) hk
    have hNj : Nj m = none := by
      cases hNj : Nj m with
      | none => rfl
      | some o => exact absurd (apart m hm (by simp [hNj])) hN
    simp only [eff, hNj, hm]; cases Fj m <;> rfl)
  refine ⟨_, a1, ?_⟩
  rw [a2, Lj.h, hH1]
  congr 2
  funext m
  simp only [eff]
  cases hNi : Ni m with
  | some o =>
    cases hNj : Nj m with
    | some p =>
      exfalso
      by_cases hm : H m = none
      · have := apart m hm (by simp [hNj]); rw [hNi] at this; cases this
      · rcases hw with h | h
        · exact (Li.hK m o hNi hm).1 h
        · exact (Lj.hK m p hNj hm).1 h
    | none =>
      simp only
      cases hF : Fj m with
      | false => rfl
      | true =>
        exfalso
        obtain ⟨k1, k2⟩ := Lj.hF m hF
        have := (A1 (Li.hK m o hNi k1).1).1
        rw [this] at k2; cases k2
  | none =>
    cases hNj : Nj m with
    | some p =>
      simp only
      cases hF : Fi m with
      | false => rfl
      | true =>
        exfalso
        obtain ⟨k1, k2⟩ := Li.hF m hF
        have := (A2 (Lj.hK m p hNj k1).1).1
        rw [this] at k2; cases k2
    | none => cases Fi m <;> cases Fj m <;> simp
end
end Pm
end
section
/- The same for the steps of a region. -/
namespace Pm
open Go Go.RowKit
section
variable {H : Hp} {C : CallF} {tm : List S}

def wants (o : Op) (tm : List S) : Option Bool :=
  match o.grd with
  | none => some true
  | some (j, w) => match tm[j]? with
    | some (.d (.val .bool b)) => some (decide (b = w))
    | some (.d .skp) => some false
    | _ => none
theorem step1_eq (o : Op) (tm : List S) (H : Hp) : step1 C o tm H = (evXs tm o.xs).bind fun ss => (actI C o.i H ss).map fun r => (setT tm o.dst r.1, r.2) := by
  unfold step1
  cases evXs tm o.xs with
  | none => rfl
  | some ss =>
    simp only [Option.bind_some]
    by_cases hn : ∃ nm f rs io, o.i = .call nm f rs io
    · obtain ⟨nm, f, rs, io, he⟩ := hn
      rw [he]
      simp only [actI]
      cases callI H nm f rs io ss with
      | none => rfl
      | some c =>
        simp only
        cases callT C c.rs c.f c.as with
        | none => rfl
        | some r => simp only [Option.bind_some]; cases c.fin r <;> rfl
    · have h1 : ∀ nm f rs io, o.i ≠ .call nm f rs io := fun nm f rs io he => hn ⟨nm, f, rs, io, he⟩
      rw [actI_core h1]
      have fin : ∀ r : Option (Chk × S × Hp), (match r with
          | some (c, s, H') => @ite _ c.p c.dec (some (setT tm o.dst s, H')) none
          | none => none) = Option.map (fun r => (setT tm o.dst r.1, r.2)) (match r with
          | some (c, s, H') => @ite _ c.p c.dec (some (s, H')) none
          | none => none) := fun r => by
        cases r with
        | none => rfl
        | some r =>
          obtain ⟨c, s, H'⟩ := r
          simp only
          by_cases hp : c.p
          · rw [@if_pos _ c.dec hp, @if_pos _ c.dec hp]; rfl
          · rw [@if_neg _ c.dec hp, @if_neg _ c.dec hp]; rfl
      generalize o.i = i at h1
      cases i <;> first | exact absurd rfl (h1 _ _ _ _) | exact fin _
theorem exec1_eq (o : Op) (tm : List S) (H : Hp) : exec1 C o tm H = match wants o tm with
    | none => none
    | some true => step1 C o tm H
    | some false => some (setT tm o.dst (.d .skp), H) := by
  unfold exec1 wants
  cases o.grd with
  | none => rfl
  | some g =>
    obtain ⟨j, w⟩ := g
    simp only
    cases hj : tm[j]? with
    | none => rfl
    | some s => cases s with
      | tup => rfl
      | d d => cases d with
        | val t x => cases t with
          | bool => by_cases h : x = w <;> simp [h]
          | _ => rfl
        | _ => rfl
/-- What a step is. -/
theorem exec1_inv {o : Op} {tm' : List S} {H' : Hp} (h : exec1 C o tm H = some (tm', H')) : (wants o tm = some false ∧ tm' = setT tm o.dst (.d .skp) ∧ H' = H) ∨ (wants o tm = some true ∧ ∃ ss s, evXs tm o.xs = some ss ∧ actI C o.i H ss = some (s, H') ∧ tm' = setT tm o.dst s) := by
  rw [exec1_eq] at h
  split at h
  · cases h
  · rename_i hw
    rw [step1_eq] at h
    obtain ⟨ss, h1, h2⟩ := Option.bind_eq_some_iff.1 h
    obtain ⟨r, h3, h4⟩ := Option.map_eq_some_iff.1 h2
    simp only [Prod.mk.injEq] at h4
    obtain ⟨rfl, rfl⟩ := h4
    exact .inr ⟨hw, ss, r.1, h1, h3, rfl⟩
  · rename_i hw
    simp only [Option.some.injEq, Prod.mk.injEq] at h
    exact .inl ⟨hw, h.1.symm, h.2.symm⟩
theorem exec1_f {o : Op} (h : wants o tm = some false) : exec1 C o tm H = some (setT tm o.dst (.d .skp), H) := by rw [exec1_eq, h]
theorem exec1_t {o : Op} {ss : List S} {s : S} {H' : Hp} (h : wants o tm = some true) (h1 : evXs tm o.xs = some ss) (h2 : actI C o.i H ss = some (s, H')) : exec1 C o tm H = some (setT tm o.dst s, H') := by
  rw [exec1_eq, h]; simp only; rw [step1_eq, h1]; simp only [Option.bind_some, h2, Option.map_some]

theorem evX_nm {x : X} {s : S} (h : evX tm x = some s) : ∀ n ∈ s.nm, ∃ s' ∈ tm, n ∈ s'.nm := by
  cases x with
  | t k => intro n hn; exact ⟨s, List.mem_of_getElem? h, hn⟩
  | _ => simp only [evX, Option.some.injEq] at h; subst h; intro n hn; simp [S.nm, namesD] at hn
theorem evXs_nm : ∀ {xs : List X} {ss : List S}, evXs tm xs = some ss → ∀ s ∈ ss, ∀ n ∈ s.nm, ∃ s' ∈ tm, n ∈ s'.nm
  | [], ss, h => by simp [evXs] at h; subst h; simp
  | x :: xs, ss, h => by
    simp only [evXs] at h
    split at h
    · rename_i s0 ss0 h1 h2
      simp only [Option.some.injEq] at h; subst h
      intro s hs
      rcases List.mem_cons.1 hs with rfl | hs
      · exact evX_nm h1
      · exact evXs_nm h2 s hs
    · cases h
theorem mem_setT {dst : Option Nat} {s s' : S} (h : s' ∈ setT tm dst s) : s' ∈ tm ∨ s' = s := by
  cases dst with
  | none => exact .inl h
  | some n => exact (List.mem_or_eq_of_mem_set h)
/-- What is closed stays closed. -/
theorem Cl.exec1 {o : Op} {tm' : List S} {H' : Hp} (hc : Cl tm H) (h : exec1 C o tm H = some (tm', H')) : Cl tm' H' := by
  rcases exec1_inv h with ⟨_, rfl, rfl⟩ | ⟨_, ss, s, h1, h2, rfl⟩
  · refine ⟨fun s hs n hn => ?_, hc.2⟩
    rcases mem_setT hs with hs | rfl
    · exact hc.1 s hs n hn
    · simp [S.nm, namesD] at hn
  · have hss : ∀ s ∈ ss, ∀ n ∈ s.nm, H n ≠ none := fun s hs n hn => by
      obtain ⟨s', k1, k2⟩ := evXs_nm h1 s hs n hn; exact hc.1 s' k1 n k2
    obtain ⟨N, F, L⟩ := law (K := fun n => H n ≠ none) (fun _ h => h) hss (fun _ n t d _ hn => hc.2 n t d hn) h2
    have up : ∀ n, (H n ≠ none ∨ N n ≠ none) → H' n ≠ none := fun n hn => by
      rw [L.h]
      rcases hn with hn | hn
      · exact dom_eff hn
      · simp only [eff]; cases hN : N n with
        | none => exact absurd hN hn
        | some o => simp
    refine ⟨fun s' hs n hn => ?_, fun n t d hn m hm => ?_⟩
    · rcases mem_setT hs with hs | rfl
      · exact up n (.inl (hc.1 s' hs n hn))
      · exact up n (L.hs n hn)
    · rw [L.h] at hn
      simp only [eff] at hn
      cases hN : N n with
      | some o =>
        rw [hN] at hn
        simp only [Option.some.injEq] at hn
        subst hn
        exact up m (L.hb n t d hN m hm)
      | none =>
        rw [hN] at hn
        simp only at hn
        refine up m (.inl ?_)
        cases hF : F n with
        | false => rw [hF] at hn; exact hc.2 n t d hn m hm
        | true =>
          rw [hF] at hn
          simp only [cond_true, Option.map_eq_some_iff] at hn
          obtain ⟨o, ho, hb⟩ := hn
          have : o = .box t d := by
            cases o with
            | arr e xs l => cases l <;> simp [fzO] at hb
            | _ => first | (simp [fzO] at hb; done) | (simp [fzO] at hb ⊢; exact hb)
          exact hc.2 n t d (by rw [ho, this]) m hm

theorem get_setT {dst : Option Nat} {s : S} {k : Nat} (h : ∀ d, dst = some d → d ≠ k) : (setT tm dst s)[k]? = tm[k]? := by
  cases dst with
  | none => rfl
  | some n => simp only [setT]; exact List.getElem?_set_ne (h n rfl)
theorem evXs_setT {dst : Option Nat} {s : S} : ∀ {xs : List X}, (∀ d, dst = some d → xs.any (fun x => hasX x d) = false) → evXs (setT tm dst s) xs = evXs tm xs
  | [], _ => rfl
  | x :: xs, h => by
    have hx : evX (setT tm dst s) x = evX tm x := by
      cases x with
      | t k =>
        simp only [evX]
        refine get_setT fun d hd he => ?_
        have := h d hd
        simp [List.any_cons, hasX, he] at this
      | _ => rfl
    simp only [evXs, hx]
    rw [evXs_setT fun d hd => by have := h d hd; simp only [List.any_cons, Bool.or_eq_false_iff] at this; exact this.2]
theorem wants_setT {dst : Option Nat} {s : S} {o : Op} (h : ∀ d, dst = some d → o.reads d = false) : wants o (setT tm dst s) = wants o tm := by
  unfold wants
  cases hg : o.grd with
  | none => rfl
  | some g =>
    obtain ⟨j, w⟩ := g
    simp only
    rw [get_setT fun d hd he => ?_]
    have := h d hd
    simp [Op.reads, hg, he] at this
theorem setT_comm {a b : Option Nat} {s s' : S} (h : ∀ d, a = some d → b ≠ some d) : setT (setT tm a s) b s' = setT (setT tm b s') a s := by
  cases a with
  | none => rfl
  | some d => cases b with
    | none => rfl
    | some e => simp only [setT]; exact List.set_comm _ _ (fun he => h d rfl (by rw [he]))
theorem slotB_spec {x y : Op} (h : slotB x y = true) : (∀ d, x.dst = some d → y.reads d = false) ∧ (∀ d, y.dst = some d → x.reads d = false) ∧ (∀ d, x.dst = some d → y.dst ≠ some d) := by
  simp only [slotB, Bool.and_eq_true] at h
  obtain ⟨h1, h2⟩ := h
  refine ⟨fun d hd => ?_, fun d hd => ?_, fun d hd he => ?_⟩
  · rw [hd] at h1; simp only [Bool.and_eq_true, Bool.not_eq_true'] at h1; exact h1.1
  · rw [hd] at h2; simpa using h2
  · rw [hd, he] at h1; simp at h1
def BoxKeep (H H1 : Hp) (m : Nat) : Prop := (∀ bt d, H m = some (.box bt d) → H1 m = some (.box bt d)) ∧ ∀ bt d, H1 m = some (.box bt d) → H m = some (.box bt d)
theorem eff_box {N : Hp} {F : Nat → Bool} {m : Nat} (h : N m = none) : BoxKeep H (eff N F H) m := by
  refine ⟨fun bt d hm => ?_, fun bt d hm => ?_⟩
  · simp only [eff, h, hm]; cases F m <;> rfl
  · simp only [eff, h] at hm
    cases hF : F m with
    | false => rw [hF] at hm; exact hm
    | true =>
      rw [hF] at hm
      simp only [cond_true, Option.map_eq_some_iff] at hm
      obtain ⟨o, ho, hb⟩ := hm
      have : o = .box bt d := by
        cases o with
        | arr e xs l => cases l <;> simp [fzO] at hb
        | _ => first | (simp [fzO] at hb; done) | (simp [fzO] at hb ⊢; exact hb)
      rw [ho, this]
theorem loadb_act {t : Ty} {ss : List S} {s : S} {H' : Hp} (h : actI C (.loadb t) H ss = some (s, H')) : ∃ n i p i' p' bt d, ss = [.d (.ptr n i p), .d (.ptr n i' p')] ∧ H n = some (.box bt d) ∧ H' = H ∧ ∀ H2, H2 n = H n → actI C (.loadb t) H2 ss = some (s, H2) := by
  have hn : ∀ nm f rs io, In.loadb t ≠ .call nm f rs io := fun _ _ _ _ h => by cases h
  obtain ⟨c, hc, hp⟩ := act_inv hn h
  simp only [core, loadbI] at hc
  split at hc <;> first | (exfalso; revert hc; simp; done) | skip
  rename_i n i p m i' p'
  cases hb : Nat.beq n m with
  | false => rw [hb] at hc; cases hc
  | true =>
    rw [hb] at hc
    have hnm := Nat.eq_of_beq_eq_true hb
    subst hnm
    simp only [cond_true] at hc
    split at hc <;> first | (exfalso; revert hc; simp; done) | skip
    rename_i bt d hbn
    split at hc <;> first | (exfalso; revert hc; simp; done) | skip
    rename_i t' x hl
    obtain ⟨rfl, rfl, rfl⟩ := outeq hc
    refine ⟨n, i, p, i', p', bt, d, rfl, hbn, rfl, fun H2 h2 => act_of hn (c := .tt) ?_ hp⟩
    have hl2 : ldAt H2 t n i p = some (.val t' x) := by rw [← hl]; simp only [ldAt, h2]
    rw [hbn] at h2
    simp only [core, loadbI, hb, cond_true, h2, hl2]
theorem storeb_act {t : Ty} {ss : List S} {s : S} {H' : Hp} (h : actI C (.storeb t) H ss = some (s, H')) {m i : Nat} {p : List Bool} (hm : S.d (.ptr m i p) ∈ ss.drop 2) : BoxKeep H H' m := by
  have hn : ∀ nm f rs io, In.storeb t ≠ .call nm f rs io := fun _ _ _ _ h => by cases h
  obtain ⟨c, hc, hp⟩ := act_inv hn h
  simp only [core, storebI] at hc
  split at hc <;> first | (exfalso; revert hc; simp; done) | skip
  rename_i n j q v es
  cases hb : es.all (S.other n) with
  | false => rw [hb] at hc; cases hc
  | true =>
    rw [hb] at hc
    obtain ⟨H1, hd, he⟩ := Option.map_eq_some_iff.1 hc
    obtain ⟨rfl, rfl, rfl⟩ := outeq (congrArg some he)
    have hne : m ≠ n := fun he => by
      have := List.all_eq_true.1 hb _ (by simpa using hm)
      simp [S.other, he] at this
    obtain ⟨o, o0, F, h1, _⟩ := stAt_law (K := fun _ => True) trivial (fun _ _ => trivial) hd
    rw [h1]
    refine eff_box ?_
    cases ho : one n o m with
    | none => rfl
    | some _ => exact absurd (one_some ho).1 hne
theorem app_act {nm : Nat} {e : Ty} {lim : Nat} {ss : List S} {s : S} {H' : Hp} (h : actI C (.app nm e lim) H ss = some (s, H')) (m : Nat) : BoxKeep H H' m := by
  have hn : ∀ nm' f rs io, In.app nm e lim ≠ .call nm' f rs io := fun _ _ _ _ h => by cases h
  obtain ⟨c, hc, hp⟩ := act_inv hn h
  simp only [core, appO] at hc
  split at hc <;> first | (exfalso; revert hc; simp; done) | skip
  rename_i sd x
  split at hc <;> first | (exfalso; revert hc; simp; done) | skip
  rename_i ys hy
  have fk : ∀ k, BoxKeep H (frz H x) k := fun k => by rw [frz_eff]; exact eff_box rfl
  have put : ∀ (H0 : Hp) (k : Nat) (e' : Ty) (zs : List e'.I) (l : Lv), (∀ bt d, H k ≠ some (.box bt d)) → BoxKeep H H0 m → BoxKeep H (upd H0 k (.arr e' zs l)) m := fun H0 k e' zs l hk h0 => by
    refine ⟨fun bt d hm => ?_, fun bt d hm => ?_⟩
    · rw [upd_ne (fun he => hk bt d (by rw [← he]; exact hm))]; exact h0.1 bt d hm
    · rcases upd_cases hm with ⟨_, h⟩ | ⟨_, h⟩
      · cases h
      · exact h0.2 bt d h
  have putd : ∀ (H0 : Hp) (k : Nat), (∀ bt d, H k ≠ some (.box bt d)) → BoxKeep H H0 m → BoxKeep H (upd H0 k .dead) m := fun H0 k hk h0 => by
    refine ⟨fun bt d hm => ?_, fun bt d hm => ?_⟩
    · rw [upd_ne (fun he => hk bt d (by rw [← he]; exact hm))]; exact h0.1 bt d hm
    · rcases upd_cases hm with ⟨_, h⟩ | ⟨_, h⟩
      · cases h
      · exact h0.2 bt d h
  cases sd with
  | nil =>
    simp only [appI] at hc
    split at hc <;> first | (exfalso; revert hc; simp; done) | skip
    rename_i hnm
    obtain ⟨rfl, rfl, rfl⟩ := outeq hc
    exact put _ _ _ _ _ (fun bt d h => by rw [hnm] at h; cases h) (fk m)
  | ref n =>
    simp only [appI] at hc
    split at hc <;> first | (exfalso; revert hc; simp; done) | skip
    rename_i e' xs hm hnm
    split at hc <;> first | (exfalso; revert hc; simp; done) | skip
    obtain ⟨rfl, rfl, rfl⟩ := outeq hc
    refine put _ _ _ _ _ (fun bt d h => by rw [hnm] at h; cases h) (putd _ _ (fun bt d h => ?_) (fk m))
    have := (fk n).1 bt d h
    rw [hm] at this; cases this
  | fsl e' xs =>
    simp only [appI] at hc
    split at hc <;> first | (exfalso; revert hc; simp; done) | skip
    obtain ⟨rfl, rfl, rfl⟩ := outeq hc
    exact fk m
  | _ => simp [appI] at hc
theorem evXs_get : ∀ {xs : List X} {ss : List S}, evXs tm xs = some ss → ∀ (k : Nat) (x : X), xs[k]? = some x → ∃ s, ss[k]? = some s ∧ evX tm x = some s
  | [], _, _, k, x, hx => by simp at hx
  | z :: xs, ss, h, k, x, hx => by
    simp only [evXs] at h
    split at h <;> first | (exfalso; revert h; simp; done) | skip
    rename_i s0 ss0 h1 h2
    injection h with h; subst h
    cases k with
    | zero => simp at hx; subst hx; exact ⟨s0, rfl, h1⟩
    | succ k => obtain ⟨s, h3, h4⟩ := evXs_get h2 k x (by simpa using hx); exact ⟨s, by simpa using h3, h4⟩
/-- A load beside a write elsewhere. -/
theorem apart_act {x y : Op} (hb : apartB x y = true) {ssx ssy : List S} {H0 : Hp} (ex : evXs tm x.xs = some ssx) (ey : evXs tm y.xs = some ssy) {n i : Nat} {p : List Bool} {i' : Nat} {p' : List Bool} (hx : ssx = [.d (.ptr n i p), .d (.ptr n i' p')]) {s : S} {H' : Hp} (h : actI C y.i H0 ssy = some (s, H')) : BoxKeep H0 H' n := by
  unfold apartB at hb
  split at hb
  · rename_i t a b t' hi hxs hj
    rw [hj] at h
    obtain ⟨z, hz, hzb⟩ := List.any_eq_true.1 hb
    cases z with
    | t k =>
      simp only [hasX] at hzb
      have := Nat.eq_of_beq_eq_true hzb; subst this
      obtain ⟨k', hk'⟩ := List.mem_iff_getElem?.1 hz
      rw [List.getElem?_drop] at hk'
      obtain ⟨s1, h1, h2⟩ := evXs_get ey _ _ hk'
      rw [hxs] at ex
      obtain ⟨s2, h3, h4⟩ := evXs_get ex 1 (.t k) rfl
      rw [hx] at h3
      simp only [List.getElem?_cons_succ, List.getElem?_cons_zero, Option.some.injEq] at h3
      subst h3
      rw [h4] at h2
      injection h2 with h2; subst h2
      exact storeb_act h (List.mem_iff_getElem?.2 ⟨k', by rw [List.getElem?_drop]; exact h1⟩)
    | _ => simp [hasX] at hzb
  · rename_i hi hj
    rw [hj] at h
    exact app_act h n
  · cases hb
theorem apart_load {x y : Op} (hb : apartB x y = true) : ∃ t, x.i = .loadb t := by
  unfold apartB at hb
  split at hb
  · rename_i h _; exact ⟨_, by assumption⟩
  · exact ⟨_, by assumption⟩
  · cases hb
theorem swap {x y : Op} {tm1 tm2 : List S} {H1 H2 : Hp} (hcl : Cl tm H) (hs : slotB x y = true) (hi : mayB x y = true) (h1 : exec1 C x tm H = some (tm1, H1)) (h2 : exec1 C y tm1 H1 = some (tm2, H2)) :
    ∃ tm' H', exec1 C y tm H = some (tm', H') ∧ exec1 C x tm' H' = some (tm2, H2) := by
  obtain ⟨s1, s2, s3⟩ := slotB_spec hs
  have rx : ∀ d, y.dst = some d → x.xs.any (fun z => hasX z d) = false := fun d hd => by have := s2 d hd; simp only [Op.reads, Bool.or_eq_false_iff] at this; exact this.1
  have ry : ∀ d, x.dst = some d → y.xs.any (fun z => hasX z d) = false := fun d hd => by have := s1 d hd; simp only [Op.reads, Bool.or_eq_false_iff] at this; exact this.1
  rcases exec1_inv h1 with ⟨w1, rfl, rfl⟩ | ⟨w1, ssx, sx, e1, a1, rfl⟩ <;> rcases exec1_inv h2 with ⟨w2, rfl, rfl⟩ | ⟨w2, ssy, sy, e2, a2, rfl⟩
  all_goals rw [wants_setT s1] at w2
  · exact ⟨_, _, exec1_f w2, by rw [exec1_f (by rw [wants_setT s2]; exact w1), setT_comm s3]⟩
  · rw [evXs_setT ry] at e2
    exact ⟨_, _, exec1_t w2 e2 a2, by rw [exec1_f (by rw [wants_setT s2]; exact w1), setT_comm s3]⟩
  · exact ⟨_, _, exec1_f w2, by rw [exec1_t (by rw [wants_setT s2]; exact w1) (by rw [evXs_setT rx]; exact e1) a1, setT_comm s3]⟩
  · rw [evXs_setT ry] at e2
    have sw : ∃ Hj, actI C y.i H ssy = some (sy, Hj) ∧ actI C x.i Hj ssx = some (sx, H2) := by
      simp only [mayB, Bool.or_eq_true] at hi
      rcases hi with (hi | hi) | hi
      · exact swap_act (fun s hs n hn => by obtain ⟨s', k1, k2⟩ := evXs_nm e1 s hs n hn; exact hcl.1 s' k1 n k2) (fun s hs n hn => by obtain ⟨s', k1, k2⟩ := evXs_nm e2 s hs n hn; exact hcl.1 s' k1 n k2) hcl.2 hi a1 a2
      · obtain ⟨t, hx⟩ := apart_load hi
        rw [hx] at a1 ⊢
        obtain ⟨n, i, p, i', p', bt, d, g1, g2, rfl, g3⟩ := loadb_act a1
        have g4 := (apart_act hi e1 e2 g1 a2).1 bt d g2
        exact ⟨_, a2, g3 _ (by rw [g4, g2])⟩
      · obtain ⟨t, hy⟩ := apart_load hi
        rw [hy] at a2 ⊢
        obtain ⟨n, i, p, i', p', bt, d, g1, g2, rfl, g3⟩ := loadb_act a2
        have g4 := (apart_act hi e2 e1 g1 a1).2 bt d g2
        exact ⟨_, g3 H (by rw [g4, g2]), a1⟩
    obtain ⟨Hj, b1, b2⟩ := sw
    exact ⟨_, _, exec1_t w2 e2 b1, by rw [exec1_t (by rw [wants_setT s2]; exact w1) (by rw [evXs_setT rx]; exact e1) b2, setT_comm s3]⟩
theorem execs_cons {o : Op} {os : List Op} : execs C (o :: os) tm H = (exec1 C o tm H).bind fun x => execs C os x.1 x.2 := rfl
/-- A step comes first. -/
theorem first {o : Op} {l2 : List Op} {r : List S × Hp} : ∀ {l1 : List Op} {tm : List S} {H : Hp}, Cl tm H → (∀ x ∈ l1, slotB x o = true ∧ mayB x o = true) → execs C (l1 ++ o :: l2) tm H = some r → ∃ tm1 H1, exec1 C o tm H = some (tm1, H1) ∧ execs C (l1 ++ l2) tm1 H1 = some r
  | [], tm, H, _, _, h => by
    simp only [List.nil_append, execs_cons] at h
    obtain ⟨x, h1, h2⟩ := Option.bind_eq_some_iff.1 h
    exact ⟨x.1, x.2, h1, h2⟩
  | x :: l1, tm, H, hc, hx, h => by
    simp only [List.cons_append, execs_cons] at h
    obtain ⟨y, h1, h2⟩ := Option.bind_eq_some_iff.1 h
    obtain ⟨tm1, H1, h3, h4⟩ := first (hc.exec1 h1) (fun z hz => hx z (List.mem_cons_of_mem _ hz)) h2
    obtain ⟨k1, k2⟩ := hx x List.mem_cons_self
    obtain ⟨tm', H', h5, h6⟩ := swap hc k1 k2 h1 h3
    exact ⟨tm', H', h5, by simp only [List.cons_append, execs_cons, h6, Option.bind_some]; exact h4⟩
end
end Pm
end
