/- Parts of the proof, joined: Pm1, Pm2, Pm3, Pm4, Pm5, Pm6, Pm7, Pm8, Pm9, Pm10, Pm11, Pm12. -/
import Derived.Calls
import Derived.Below
import Derived.Deep.Slices
import Derived.Laws.MakeOwn
import Derived.Laws.OwnMore
import Derived.ArgAppend
import Derived.Great.BuildSlice
import Derived.Laws.StructEq
import Derived.Lib.AppendZeros
import Derived.Laws.Slices
set_option linter.unusedVariables false
set_option linter.unusedSimpArgs false
section
/- A plain reading of the program's code: typed values, a memory of its own, and what each operation does to them. Nothing here speaks of the machine's memory. -/
namespace Pm
open Go

/-- Kinds of data: whole numbers, bools, strings, structs (nested pairs), slices. -/
inductive Ty where
  | int (k : IntKind) | bool | str | unit | pair (a b : Ty) | sl (e : Ty)

def kc : IntKind → Nat
  | .i8 => 0 | .i16 => 1 | .i32 => 2 | .i64 => 3 | .u8 => 4 | .u16 => 5 | .u32 => 6 | .u64 => 7
theorem kc_inj {a b : IntKind} (h : kc a = kc b) : a = b := by cases a <;> cases b <;> first | rfl | (simp [kc] at h)
def Ty.beq : Ty → Ty → Bool
  | .int k, .int l => Nat.beq (kc k) (kc l)
  | .bool, .bool => true
  | .str, .str => true
  | .unit, .unit => true
  | .pair a b, .pair c d => cond (Ty.beq a c) (Ty.beq b d) false
  | .sl e, .sl f => Ty.beq e f
  | _, _ => false
theorem Ty.beq_eq : ∀ a b : Ty, Ty.beq a b = true → a = b
  | .int k, .int l, h => by simp only [Ty.beq, Nat.beq_eq] at h; rw [kc_inj h]
  | .bool, .bool, _ => rfl
  | .str, .str, _ => rfl
  | .unit, .unit, _ => rfl
  | .pair a b, .pair c d, h => by
    simp only [Ty.beq] at h
    cases h1 : Ty.beq a c with
    | false => rw [h1] at h; simp at h
    | true => rw [h1] at h; rw [Ty.beq_eq a c h1, Ty.beq_eq b d h]
  | .sl e, .sl f, h => by rw [Ty.beq_eq e f h]
  | .int _, .bool, h | .int _, .str, h | .int _, .unit, h | .int _, .pair _ _, h | .int _, .sl _, h => by simp [Ty.beq] at h
  | .bool, .int _, h | .bool, .str, h | .bool, .unit, h | .bool, .pair _ _, h | .bool, .sl _, h => by simp [Ty.beq] at h
  | .str, .int _, h | .str, .bool, h | .str, .unit, h | .str, .pair _ _, h | .str, .sl _, h => by simp [Ty.beq] at h
  | .unit, .int _, h | .unit, .bool, h | .unit, .str, h | .unit, .pair _ _, h | .unit, .sl _, h => by simp [Ty.beq] at h
  | .pair _ _, .int _, h | .pair _ _, .bool, h | .pair _ _, .str, h | .pair _ _, .unit, h | .pair _ _, .sl _, h => by simp [Ty.beq] at h
  | .sl _, .int _, h | .sl _, .bool, h | .sl _, .str, h | .sl _, .unit, h | .sl _, .pair _ _, h => by simp [Ty.beq] at h
theorem Ty.beq_refl : ∀ a : Ty, Ty.beq a a = true
  | .int k => by simp [Ty.beq]
  | .bool => rfl
  | .str => rfl
  | .unit => rfl
  | .pair a b => by simp [Ty.beq, Ty.beq_refl a, Ty.beq_refl b]
  | .sl e => by simp [Ty.beq, Ty.beq_refl e]

/-- The Lean type of a kind. -/
@[reducible] def Ty.I : Ty → Type
  | .int _ => Int
  | .bool => Bool
  | .str => ByteArray
  | .unit => Unit
  | .pair a b => a.I × b.I
  | .sl e => List e.I
/-- The zero value. -/
def Ty.z : (t : Ty) → t.I
  | .int _ => (0 : Int)
  | .bool => false
  | .str => ByteArray.empty
  | .unit => ()
  | .pair a b => (a.z, b.z)
  | .sl _ => []
/-- How many cells. -/
def Ty.sz : Ty → Nat
  | .unit => 0
  | .pair a b => a.sz + b.sz
  | _ => 1
/-- Is it a struct. -/
def Ty.agg : Ty → Bool
  | .unit => true
  | .pair _ _ => true
  | _ => false
/-- Does it lead to a slice. -/
def Ty.hasSl : Ty → Bool
  | .pair a b => a.hasSl || b.hasSl
  | .sl _ => true
  | _ => false

structure TV where
  t : Ty
  x : t.I
def castT (t t' : Ty) (x : t.I) : Option t'.I := if h : Ty.beq t t' = true then some (Ty.beq_eq t t' h ▸ x) else none
theorem castT_some {t t' : Ty} {x : t.I} {y : t'.I} (h : castT t t' x = some y) : ∃ e : t = t', e ▸ x = y := by
  unfold castT at h
  split at h
  · rename_i hb; exact ⟨Ty.beq_eq t t' hb, by injection h⟩
  · cases h
theorem castT_self (t : Ty) (x : t.I) : castT t t x = some x := by simp [castT, Ty.beq_refl]

/-- A field of a struct, by the way to it. -/
def getP : (t : Ty) → t.I → List Bool → Option TV
  | t, x, [] => some ⟨t, x⟩
  | .pair a _, x, false :: p => getP a x.1 p
  | .pair _ b, x, true :: p => getP b x.2 p
  | _, _, _ => none
def setP : (t : Ty) → t.I → List Bool → TV → Option t.I
  | t, _, [], v => castT v.t t v.x
  | .pair a _, x, false :: p, v => (setP a x.1 p v).map fun y => (y, x.2)
  | .pair _ b, x, true :: p, v => (setP b x.2 p v).map fun y => (x.1, y)
  | _, _, _, _ => none
def subT : Ty → List Bool → Option Ty
  | t, [] => some t
  | .pair a _, false :: p => subT a p
  | .pair _ b, true :: p => subT b p
  | _, _ => none
def Ty.off : Ty → List Bool → Nat
  | .pair a _, false :: p => a.off p
  | .pair a b, true :: p => a.sz + b.off p
  | _, _ => 0

/-- What a slot or a variable holds. -/
inductive D where
  | undef
  | skp                             -- what an operation that is left out leaves
  | val (t : Ty) (x : t.I)          -- data: it never changes
  | nil                             -- the nil slice
  | fsl (e : Ty) (xs : List e.I)    -- a slice whose capacity is its length
  | nn (e : Ty) (xs : List e.I)     -- a slice that is not nil
  | ref (n : Nat)                   -- a row of the call's own
  | view (n l : Nat)                -- the same, from an element on
  | ptr (n i : Nat) (p : List Bool) -- the address of a variable of the call's own, or of an element of a row of its own, or of a field there
  | iptr (t : Ty) (x : t.I)         -- the address of what never changes
  | clo (f : Nat) (caps : List Nat) -- a function with the variables that it captured
  | cloi (f : Nat) (caps : List TV) -- the same, handed on: what they hold
  | own (e : Ty) (xs : List e.I)    -- a row that is handed over
inductive S where
  | d (x : D)
  | tup (xs : List D)
inductive Lv where
  | fr | lv | io
inductive Ob where
  | arr (e : Ty) (xs : List e.I) (l : Lv)
  | box (t : Ty) (d : D)
  | dead
abbrev Hp := Nat → Option Ob
def upd (H : Hp) (n : Nat) (o : Ob) : Hp := fun m => cond (Nat.beq m n) (some o) (H m)

/-- What a value reads as, of a kind. -/
def snap (H : Hp) (t : Ty) : D → Option t.I
  | .val t' x => castT t' t x
  | .nil => match t with | .sl _ => some [] | _ => none
  | .fsl e xs => castT (.sl e) t xs
  | .nn e xs => castT (.sl e) t xs
  | .ref n => match H n with
    | some (.arr e xs .fr) => castT (.sl e) t xs
    | some (.arr e xs .lv) => castT (.sl e) t xs
    | _ => none
  | _ => none
/-- Its row is written no more. -/
def frz (H : Hp) : D → Hp
  | .ref n => match H n with
    | some (.arr e xs .lv) => upd H n (.arr e xs .fr)
    | _ => H
  | _ => H
/-- What a variable of a kind may hold. -/
def cont (t : Ty) : D → Option D
  | .val t' x => (castT t' t x).map fun y => .val t y
  | .nil => match t with | .sl _ => some .nil | _ => none
  | .ref n => match t with | .sl _ => some (.ref n) | _ => none
  | _ => none

/-- A condition that is asked for. -/
structure Chk where
  p : Prop
  dec : Decidable p
@[reducible] def Chk.tt : Chk := ⟨True, instDecidableTrue⟩
@[reducible] def Chk.of (p : Prop) [d : Decidable p] : Chk := ⟨p, d⟩

def bits (op : BinOp) (k : IntKind) (x y : Int) : Int :=
  let a := BitVec.ofInt k.bits x
  let b := BitVec.ofInt k.bits y
  match op with
  | .and => k.wrap (a &&& b).toNat
  | .or => k.wrap (a ||| b).toNat
  | .xor => k.wrap (a ^^^ b).toNat
  | _ => k.wrap (a &&& ~~~b).toNat
def intOp (op : BinOp) (k : IntKind) (x y : Int) : Option (Chk × TV) :=
  match op with
  | .add => some (.tt, ⟨.int k, k.wrap (x + y)⟩)
  | .sub => some (.tt, ⟨.int k, k.wrap (x - y)⟩)
  | .mul => some (.tt, ⟨.int k, k.wrap (x * y)⟩)
  | .quo => some (.of (y ≠ 0), ⟨.int k, k.wrap (x.tdiv y)⟩)
  | .rem => some (.of (y ≠ 0), ⟨.int k, x.tmod y⟩)
  | .and | .or | .xor | .andNot => some (.tt, ⟨.int k, bits op k x y⟩)
  | .eql => some (.tt, ⟨.bool, x == y⟩)
  | .neq => some (.tt, ⟨.bool, x != y⟩)
  | .lss => some (.tt, ⟨.bool, decide (x < y)⟩)
  | .leq => some (.tt, ⟨.bool, decide (x ≤ y)⟩)
  | .gtr => some (.tt, ⟨.bool, decide (x > y)⟩)
  | .geq => some (.tt, ⟨.bool, decide (x ≥ y)⟩)
  | _ => none
/-- Equality, field by field. -/
def eqT : (t : Ty) → t.I → t.I → Option Bool
  | .int _, x, y => some (@BEq.beq Int _ x y)
  | .bool, x, y => some (@BEq.beq Bool _ x y)
  | .pair a b, x, y => match eqT a x.1 y.1, eqT b x.2 y.2 with
    | some p, some q => some (p && q)
    | _, _ => none
  | .unit, _, _ => some true
  | _, _, _ => none
def binOp (op : BinOp) (t : Ty) (x y : t.I) : Option (Chk × TV) :=
  match t, x, y with
  | .int k, x, y => intOp op k x y
  | t, x, y => match op with
    | .eql => (eqT t x y).map fun b => (.tt, ⟨.bool, b⟩)
    | .neq => (eqT t x y).map fun b => (.tt, ⟨.bool, !b⟩)
    | _ => none

/-- Kinds of results: data, or a row that is handed over. -/
inductive RT where
  | v (t : Ty) | o (e : Ty)
@[reducible] def RT.I : RT → Type
  | .v t => t.I
  | .o e => List e.I
@[reducible] def RI : List RT → Type
  | [] => Unit
  | [r] => r.I
  | r :: s :: rs => r.I × RI (s :: rs)
def dec1 : (r : RT) → D → Option r.I
  | .v t, .val t' x => castT t' t x
  | .o e, .own e' xs => castT (.sl e') (.sl e) xs
  | _, _ => none
def decs : (rs : List RT) → List D → Option (RI rs)
  | [], [] => some ()
  | [r], [d] => dec1 r d
  | r :: s :: rs, d :: ds => match dec1 r d, decs (s :: rs) ds with
    | some x, some y => some (x, y)
    | _, _ => none
  | _, _ => none
abbrev CallF := Nat → List D → Option (List D)
def callT (C : CallF) (rs : List RT) (f : Nat) (as : List D) : Option (RI rs) := (C f as).bind (decs rs)

inductive SlM where
  | snap | trunc | view
/-- Operations. nm: the name of what is made. -/
inductive In where
  | mov
  | own0 (nm : Nat) (e : Ty)
  | pick
  | box (nm : Nat) (t : Ty)
  | alloc (nm : Nat) (t : Ty)
  | build (t : Ty) (ps : List (List Bool × Ty))
  | bsl (nm : Nat) (e : Ty) (len : Nat) (ix : List Nat)
  | load (t : Ty)
  | store (t : Ty)
  | bin (op : BinOp) (t : Ty)
  | isNil (neg : Bool)
  | neg (k : IntKind)
  | not
  | conv (k k' : IntKind)
  | mkfn (f : Nat)
  | mksl (nm : Nat) (e : Ty) (lim : Nat)
  | slice (nm : Nat) (m : SlM) (e : Ty) (lo hi mx : Bool)
  | fld (t0 : Ty) (p : List Bool) (t : Ty)
  | fadr (t : Ty) (p : List Bool)
  | iadr (e : Ty)
  | ext (j : Nat)
  | len
  | cap
  | app (nm : Nat) (e : Ty) (lim : Nat)
  | appz (nm : Nat) (e : Ty) (lim : Nat)
  | copy (e : Ty)
  | mm (isMax : Bool) (k : IntKind)
  | loadi (t : Ty)                       -- the same of what never changes alone
  | slicei (e : Ty) (lo hi mx : Bool)
  | bsli (nm : Nat) (e : Ty) (len : Nat) (ix : List Nat)
  | loadb (t : Ty)                       -- of a variable of the call's own: the address, the variable
  | storeb (t : Ty)                      -- into a variable that is none of those that are named behind
  | call (nm : Nat) (f : Option Nat) (rs : List RT) (io : Bool)   -- io: its first argument is a row that is handed in and out
inductive X where
  | t (n : Nat) | int (k : IntKind) (n : Int) | bool (b : Bool) | str (s : ByteArray) | nil | fn (f : Nat)
structure Op where
  dst : Option Nat
  grd : Option (Nat × Bool)
  i : In
  xs : List X
def evX (tm : List S) : X → Option S
  | .t n => tm[n]?
  | .int k n => some (.d (.val (.int k) n))
  | .bool b => some (.d (.val .bool b))
  | .str s => some (.d (.val .str s))
  | .nil => some (.d .nil)
  | .fn f => some (.d (.clo f []))
def evXs (tm : List S) : List X → Option (List S)
  | [] => some []
  | x :: xs => match evX tm x, evXs tm xs with
    | some s, some ss => some (s :: ss)
    | _, _ => none

def new (H : Hp) (nm : Nat) (o : Ob) (d : D) : Option (Chk × S × Hp) :=
  match H nm with
  | none => some (.tt, .d d, upd H nm o)
  | some _ => none
def newC (c : Chk) (H : Hp) (nm : Nat) (o : Ob) (d : D) : Option (Chk × S × Hp) :=
  match H nm with
  | none => some (c, .d d, upd H nm o)
  | some _ => none
def snaps (H : Hp) : List Ty → List S → Option (List TV)
  | [], [] => some []
  | t :: ts, .d d :: ss => match snap H t d, snaps H ts ss with
    | some x, some xs => some (⟨t, x⟩ :: xs)
    | _, _ => none
  | _, _ => none
def frzs (H : Hp) : List S → Hp
  | [] => H
  | .d d :: ss => frzs (frz H d) ss
  | _ :: ss => frzs H ss
def builds (t : Ty) (x : t.I) : List (List Bool × Ty) → List TV → Option t.I
  | [], [] => some x
  | p :: ps, v :: vs => match setP t x p.1 v with
    | some y => builds t y ps vs
    | none => none
  | _, _ => none
def sets (e : Ty) (xs : List e.I) : List Nat → List TV → Option (List e.I)
  | [], [] => some xs
  | i :: is, v :: vs => match castT v.t e v.x with
    | some y => cond (Nat.blt i xs.length) (sets e (xs.set i y) is vs) none
    | none => none
  | _, _ => none
/-- What stands at an address of the call's own. -/
def ldAt (H : Hp) (t : Ty) (n i : Nat) (p : List Bool) : Option D :=
  match H n with
  | some (.box bt d) => match p with
    | [] => cond (Ty.beq bt t) (some d) none
    | p => match d with
      | .val bt' x => match getP bt' x p with
        | some v => (castT v.t t v.x).map fun y => .val t y
        | none => none
      | _ => none
  | some (.arr e xs _) => match getP e (xs.getD i e.z) p with
    | some v => (castT v.t t v.x).map fun y => .val t y
    | none => none
  | _ => none
def ldI (H : Hp) (t : Ty) : D → Option D
  | .iptr t' x => (castT t' t x).map fun y => .val t y
  | .ptr n i p => ldAt H t n i p
  | _ => none
def stAt (H : Hp) (t : Ty) (n i : Nat) (p : List Bool) (v : D) : Option Hp :=
  match H n with
  | some (.box bt d) => match p with
    | [] => cond (Ty.beq bt t) ((cont bt v).map fun d' => upd H n (.box bt d')) none
    | p => match d, snap H t v with
      | .val bt' x, some y => cond (Ty.beq bt' bt) ((setP bt' x p ⟨t, y⟩).map fun x' => upd (frz H v) n (.box bt (.val bt' x'))) none
      | _, _ => none
  | some (.arr _ _ _) => match frz H v n, snap H t v with
    | some (.arr _ _ .fr), _ => none
    | some (.arr e xs l), some y => (setP e (xs.getD i e.z) p ⟨t, y⟩).map fun x' => upd (frz H v) n (.arr e (xs.set i x') l)
    | _, _ => none
  | _ => none
def lenOf (H : Hp) : D → Option Nat
  | .val (.sl _) xs => some (List.length xs)
  | .fsl _ xs => some xs.length
  | .nn _ xs => some xs.length
  | .nil => some 0
  | .ref n => match H n with
    | some (.arr _ xs _) => some xs.length
    | _ => none
  | _ => none
def idxI (H : Hp) (e : Ty) (i : Int) : D → Option (Chk × S)
  | .ref n => match H n with
    | some (.arr e' xs _) => cond (Ty.beq e' e) (some (.of (0 ≤ i ∧ i < (xs.length : Int)), .d (.ptr n i.toNat []))) none
    | _ => none
  | d => match snap H (.sl e) d with
    | some xs => some (.of (0 ≤ i ∧ i < ((List.length xs : Nat) : Int)), .d (.iptr e (List.getD xs i.toNat e.z)))
    | none => none
def optI : Bool → List S → Option (Option Int × List S)
  | false, ss => some (none, ss)
  | true, .d (.val (.int _) n) :: ss => some (some n, ss)
  | _, _ => none
def cut {α : Type} (xs : List α) (lo hi : Option Int) : List α :=
  match lo, hi with
  | none, none => xs
  | none, some h => xs.take h.toNat
  | some l, none => xs.drop l.toNat
  | some l, some h => (xs.take h.toNat).drop l.toNat
def cutOk (n : Nat) (lo hi mx : Option Int) : Chk :=
  match lo, hi, mx with
  | none, none, none => .tt
  | none, some h, none => .of (0 ≤ h ∧ h ≤ (n : Int))
  | some l, none, none => .of (0 ≤ l ∧ l ≤ (n : Int))
  | some l, some h, none => .of (0 ≤ l ∧ l ≤ h ∧ h ≤ (n : Int))
  | none, some h, some m => .of (0 ≤ h ∧ h ≤ (n : Int) ∧ m = h)
  | some l, some h, some m => .of (0 ≤ l ∧ l ≤ h ∧ h ≤ (n : Int) ∧ m = h)
  | _, _, _ => .of False
def cutD (H : Hp) (e : Ty) (d : D) (xs : List e.I) (lo hi mx : Option Int) : Chk × S × Hp :=
  match mx with
  | none => (cutOk xs.length lo hi none, .d (.val (.sl e) (cut xs lo hi)), frz H d)
  | some m => (cutOk xs.length lo hi (some m), .d (.fsl e (cut xs lo hi)), frz H d)
def truncAt (H : Hp) (nm : Nat) (e : Ty) (n : Nat) (h : Int) : Option (Chk × S × Hp) :=
  match H nm with
  | some _ => none
  | none => match H n with
    | some (.arr e' xs .lv) => cond (Ty.beq e' e) (some (.of (0 ≤ h ∧ h ≤ (xs.length : Int)), .d (.ref nm), upd (upd H n .dead) nm (.arr e' (xs.take h.toNat) .lv))) none
    | _ => none
def viewOf (H : Hp) (e : Ty) (n : Nat) (l : Int) : Option (Chk × S × Hp) :=
  match H n with
  | some (.arr e' xs .lv) => cond (Ty.beq e' e) (some (.of (0 ≤ l ∧ l ≤ (xs.length : Int)), .d (.view n l.toNat), H)) none
  | _ => none
def sliceI (H : Hp) (nm : Nat) (m : SlM) (e : Ty) (d : D) (lo hi mx : Option Int) : Option (Chk × S × Hp) :=
  match m with
  | .snap => match d with
    | .nil => some (.of ((∀ l ∈ lo, l = 0) ∧ (∀ h ∈ hi, h = 0) ∧ (∀ m ∈ mx, m = 0) ∧ (mx.isSome = true → hi.isSome = true)), .d .nil, H)
    | d => (snap H (.sl e) d).map fun xs => cutD H e d xs lo hi mx
  | .trunc => match d, lo, hi, mx with
    | .ref n, none, some h, none => truncAt H nm e n h
    | _, _, _, _ => none
  | .view => match d, lo, hi, mx with
    | .ref n, some l, none, none => viewOf H e n l
    | _, _, _, _ => none
def appI (H : Hp) (nm : Nat) (e : Ty) (lim : Nat) (s : D) (ys : List e.I) (H' : Hp) : Option (Chk × S × Hp) :=
  match s with
  | .nil => match H nm with
    | none => some (.of (ys.length < lim), .d (.ref nm), upd H' nm (.arr e ys .lv))
    | some _ => none
  | .ref n => match H' n, H nm with
    | some (.arr e' xs .lv), none => match castT (.sl e') (.sl e) xs with
      | some xs => some (.of (List.length xs + ys.length < lim), .d (.ref nm), upd (upd H' n .dead) nm (.arr e (xs ++ ys) .lv))
      | none => none
    | _, _ => none
  | .fsl e' xs => match castT (.sl e') (.sl e) xs with
    | some xs => some (.of (List.length xs + ys.length < lim), .d (.val (.sl e) (xs ++ ys)), H')
    | none => none
  | _ => none
def copyTo {α : Type} (xs : List α) (l : Nat) (ys : List α) : List α := xs.take l ++ ys.take (min ys.length (xs.length - l)) ++ xs.drop (l + min ys.length (xs.length - l))
def copyI (e : Ty) (d : D) (ys : List e.I) (H' : Hp) : Option (Chk × S × Hp) :=
  match d with
  | .ref n => match H' n with
    | some (.arr e' xs .lv) => match castT (.sl e') (.sl e) xs with
      | some xs => some (.tt, .d (.val (.int .i64) ((min ys.length (List.length xs) : Nat) : Int)), upd H' n (.arr e (copyTo xs 0 ys) .lv))
      | none => none
    | _ => none
  | .view n l => match H' n with
    | some (.arr e' xs .lv) => match castT (.sl e') (.sl e) xs with
      | some xs => some (.tt, .d (.val (.int .i64) ((min ys.length (List.length xs - l) : Nat) : Int)), upd H' n (.arr e (copyTo xs l ys) .lv))
      | none => none
    | _ => none
  | _ => none
def mmI (isMax : Bool) : Int → List S → Option Int
  | a, [] => some a
  | a, .d (.val (.int _) b) :: ss => mmI isMax (cond isMax (if b > a then b else a) (if b < a then b else a)) ss
  | _, _ => none
def names (H : Hp) : List S → Option (List Nat)
  | [] => some []
  | .d (.ptr n 0 []) :: ss => match H n with
    | some (.box _ _) => (names H ss).map (n :: ·)
    | _ => none
  | _ => none

abbrev Out := Option (Chk × S × Hp)
def movI (H : Hp) : List S → Out
  | [s] => some (.tt, s, H)
  | _ => none
def pickI (H : Hp) : List S → Out
  | [.d (.val .bool c), x, y] => match x, y with
    | .d (.val .bool p), .d (.val .bool q) => some (.tt, .d (.val .bool (cond c p q)), H)
    | x, y => some (.tt, cond c x y, H)
  | _ => none
def boxI (H : Hp) (nm : Nat) (t : Ty) : List S → Out
  | [.d d] => match cont t d with
    | some d' => new H nm (.box t d') (.ptr nm 0 [])
    | none => none
  | _ => none
def buildI (H : Hp) (t : Ty) (ps : List (List Bool × Ty)) (ss : List S) : Out :=
  match snaps H (ps.map (·.2)) ss with
  | some vs => match builds t t.z ps vs with
    | some x => some (.tt, .d (.val t x), frzs H ss)
    | none => none
  | none => none
def bslI (H : Hp) (nm : Nat) (e : Ty) (len : Nat) (ix : List Nat) (ss : List S) : Out :=
  match snaps H (ix.map fun _ => e) ss with
  | some vs => match sets e (List.replicate len e.z) ix vs with
    | some xs => match H nm with
      | none => some (.tt, .d (.ref nm), upd (frzs H ss) nm (.arr e xs .lv))
      | some _ => none
    | none => none
  | none => none
def loadI (H : Hp) (t : Ty) : List S → Out
  | [.d a] => (ldI H t a).map fun d => (.tt, .d d, H)
  | _ => none
def storeI (H : Hp) (t : Ty) : List S → Out
  | [.d (.ptr n i p), .d v] => (stAt H t n i p v).map fun H' => (.tt, .d .undef, H')
  | _ => none
def binI (H : Hp) (op : BinOp) (t : Ty) : List S → Out
  | [.d (.val t1 x), .d (.val t2 y)] => match castT t1 t x, castT t2 t y with
    | some x, some y => (binOp op t x y).map fun r => (r.1, .d (.val r.2.t r.2.x), H)
    | _, _ => none
  | _ => none
def isNilI (H : Hp) (ng : Bool) : List S → Out
  | [.d .nil, .d .nil] => some (.tt, .d (.val .bool (!ng)), H)
  | [.d (.nn _ _), .d .nil] => some (.tt, .d (.val .bool ng), H)
  | _ => none
def negI (H : Hp) (k : IntKind) : List S → Out
  | [.d (.val (.int k0) x)] => cond (Nat.beq (kc k0) (kc k)) (some (.tt, .d (.val (.int k) (k.wrap (0 - x))), H)) none
  | _ => none
def notI (H : Hp) : List S → Out
  | [.d (.val .bool b)] => some (.tt, .d (.val .bool (!b)), H)
  | _ => none
def convI (H : Hp) (k' : IntKind) : List S → Out
  | [.d (.val (.int _) x)] => some (.tt, .d (.val (.int k') (k'.wrap x)), H)
  | _ => none
def mkslI (H : Hp) (nm : Nat) (e : Ty) (lim : Nat) : List S → Out
  | [.d (.val (.int _) l), .d (.val (.int _) c)] => newC (.of (0 ≤ l ∧ l ≤ c ∧ c ≤ (lim : Int))) H nm (.arr e (List.replicate l.toNat e.z) .lv) (.ref nm)
  | _ => none
def sliceO (H : Hp) (nm : Nat) (m : SlM) (e : Ty) (lo hi mx : Bool) : List S → Out
  | .d d :: ss => match optI lo ss with
    | some (lo, ss) => match optI hi ss with
      | some (hi, ss) => match optI mx ss with
        | some (mx, []) => sliceI H nm m e d lo hi mx
        | _ => none
      | none => none
    | none => none
  | _ => none
def fldI (H : Hp) (t0 : Ty) (p : List Bool) (t : Ty) : List S → Out
  | [.d (.val t' x)] => match getP t' x p with
    | some v => cond (Ty.beq t' t0) ((castT v.t t v.x).map fun y => (.tt, .d (.val t y), H)) none
    | none => none
  | _ => none
def fadrI (H : Hp) (t : Ty) (p : List Bool) : List S → Out
  | [.d (.ptr n i q)] => match subT t p, (match H n with
      | some (.arr e _ _) => subT e q
      | some (.box bt _) => subT bt q
      | _ => none) with
    | some _, some t' => cond (Ty.beq t' t) (some (.tt, .d (.ptr n i (q ++ p)), H)) none
    | _, _ => none
  | [.d (.iptr t' x)] => match getP t' x p with
    | some v => cond (Ty.beq t' t) (some (.tt, .d (.iptr v.t v.x), H)) none
    | none => none
  | _ => none
def iadrI (H : Hp) (e : Ty) : List S → Out
  | [.d d, .d (.val (.int _) i)] => (idxI H e i d).map fun r => (r.1, r.2, H)
  | _ => none
def extI (H : Hp) (j : Nat) : List S → Out
  | [.tup ds] => match ds[j]? with
    | some d => some (.tt, .d d, H)
    | none => none
  | _ => none
def lenI (H : Hp) : List S → Out
  | [.d d] => (lenOf H d).map fun (n : Nat) => (.tt, .d (.val (.int .i64) (n : Int)), H)
  | _ => none
def capI (H : Hp) : List S → Out
  | [.d .nil] => some (.tt, .d (.val (.int .i64) 0), H)
  | _ => none
def appO (H : Hp) (nm : Nat) (e : Ty) (lim : Nat) : List S → Out
  | [.d s, .d x] => match snap H (.sl e) x with
    | some ys => appI H nm e lim s ys (frz H x)
    | none => none
  | _ => none
def appzI (H : Hp) (nm : Nat) (e : Ty) (lim : Nat) : List S → Out
  | [.d .nil, .d (.val (.int _) n)] => newC (.of (0 ≤ n ∧ n < (lim : Int))) H nm (.arr e (List.replicate n.toNat e.z) .lv) (.ref nm)
  | _ => none
def copyO (H : Hp) (e : Ty) : List S → Out
  | [.d d, .d x] => match snap H (.sl e) x with
    | some ys => copyI e d ys (frz H x)
    | none => none
  | _ => none
def mmO (H : Hp) (mx : Bool) (k : IntKind) : List S → Out
  | .d (.val (.int k0) a) :: ss => cond (Nat.beq (kc k0) (kc k)) ((mmI mx a ss).map fun n => (.tt, .d (.val (.int k) n), H)) none
  | _ => none
def own0I (H : Hp) (nm : Nat) (e : Ty) : List S → Out
  | [] => new H nm (.arr e [] .lv) (.ref nm)
  | _ => none
def allocI (H : Hp) (nm : Nat) (t : Ty) : List S → Out
  | [] => new H nm (.box t (.val t t.z)) (.ptr nm 0 [])
  | _ => none
def mkfnI (H : Hp) (f : Nat) (ss : List S) : Out := (names H ss).map fun ns => (.tt, .d (.clo f ns), H)
def S.dat : S → Bool
  | .d (.val _ _) => true
  | .d .nil => true
  | .d (.fsl _ _) => true
  | .d (.nn _ _) => true
  | _ => false
def loadiI (H : Hp) (t : Ty) : List S → Out
  | [.d (.iptr t' x)] => (castT t' t x).map fun y => (.tt, .d (.val t y), H)
  | _ => none
def loadbI (H : Hp) (t : Ty) : List S → Out
  | [.d (.ptr n i p), .d (.ptr m _ _)] => cond (Nat.beq n m) (match H n with
    | some (.box _ _) => match ldAt H t n i p with
      | some (.val t' x) => some (.tt, .d (.val t' x), H)
      | _ => none
    | _ => none) none
  | _ => none
def S.other (n : Nat) : S → Bool
  | .d (.ptr m _ _) => !Nat.beq m n
  | _ => false
def storebI (H : Hp) (t : Ty) : List S → Out
  | .d (.ptr n i p) :: .d v :: es => cond (es.all (S.other n)) ((stAt H t n i p v).map fun H' => (.tt, .d .undef, H')) none
  | _ => none
/-- What an operation does that calls nothing: the condition that it asks, its value, the memory. -/
def core (H : Hp) : In → List S → Out
  | .mov => movI H
  | .own0 nm e => own0I H nm e
  | .pick => pickI H
  | .box nm t => boxI H nm t
  | .alloc nm t => allocI H nm t
  | .build t ps => buildI H t ps
  | .bsl nm e len ix => bslI H nm e len ix
  | .load t => loadI H t
  | .store t => storeI H t
  | .bin op t => binI H op t
  | .isNil ng => isNilI H ng
  | .neg k => negI H k
  | .not => notI H
  | .conv _ k' => convI H k'
  | .mkfn f => mkfnI H f
  | .mksl nm e lim => mkslI H nm e lim
  | .slice nm m e lo hi mx => sliceO H nm m e lo hi mx
  | .fld t0 p t => fldI H t0 p t
  | .fadr t p => fadrI H t p
  | .iadr e => iadrI H e
  | .ext j => extI H j
  | .len => lenI H
  | .cap => capI H
  | .app nm e lim => appO H nm e lim
  | .appz nm e lim => appzI H nm e lim
  | .copy e => copyO H e
  | .mm mx k => mmO H mx k
  | .loadi t => loadiI H t
  | .loadb t => loadbI H t
  | .storeb t => storebI H t
  | .slicei e lo hi mx => fun ss => cond (ss.all S.dat) (sliceO H 0 .snap e lo hi mx ss) none
  | .bsli nm e len ix => fun ss => cond (ss.all S.dat) (bslI H nm e len ix ss) none
  | .call _ _ _ _ => fun _ => none
end Pm
end
section
/- Code, loops, functions: how the plain reading runs. -/
namespace Pm
open Go

/-- What a call is given of its arguments. -/
def argD (H : Hp) : D → Option D
  | .val t x => some (.val t x)
  | .nil => some .nil
  | .fsl e xs => some (.val (.sl e) xs)
  | .nn e xs => some (.val (.sl e) xs)
  | .ref n => match H n with
    | some (.arr e xs .fr) => some (.val (.sl e) xs)
    | some (.arr e xs .lv) => some (.val (.sl e) xs)
    | _ => none
  | .ptr n 0 [] => match H n with
    | some (.box t d) => (snap H t d).map fun x => .iptr t x
    | _ => none
  | .iptr t x => some (.iptr t x)
  | .clo f caps => (capI H caps).map fun l => .cloi f l
  | .cloi f l => some (.cloi f l)
  | _ => none
where
  capI (H : Hp) : List Nat → Option (List TV)
    | [] => some []
    | n :: ns => match H n with
      | some (.box t d) => match snap H t d, capI H ns with
        | some x, some l => some (⟨t, x⟩ :: l)
        | _, _ => none
      | _ => none
def argDs (H : Hp) : List S → Option (List D)
  | [] => some []
  | .d d :: ss => match argD H d, argDs H ss with
    | some x, some xs => some (x :: xs)
    | _, _ => none
  | _ => none
def RT.sl : RT → Bool
  | .v t => t.hasSl
  | .o e => e.hasSl
/-- Closed arguments: no address, no function. -/
def S.plain : S → Bool
  | .d (.ptr _ _ _) => false
  | .d (.iptr _ _) => false
  | .d (.clo _ _) => false
  | .d (.cloi _ _) => false
  | _ => true
/-- The results come into the caller's memory. -/
def imp1 (nm : Nat) : (r : RT) → r.I → D
  | .v t, x => .val t x
  | .o _, _ => .ref nm
def put1 (nm : Nat) (H : Hp) : (r : RT) → r.I → Option Hp
  | .v _, _ => some H
  | .o e, xs => match H nm with
    | none => some (upd H nm (.arr e xs .lv))
    | some _ => none
def imps (nm : Nat) : (rs : List RT) → RI rs → List D
  | [], _ => []
  | [r], x => [imp1 nm r x]
  | r :: s :: rs, x => imp1 nm r x.1 :: imps (nm + 1) (s :: rs) x.2
def puts (nm : Nat) (H : Hp) : (rs : List RT) → RI rs → Option Hp
  | [], _ => some H
  | [r], x => put1 nm H r x
  | r :: s :: rs, x => match put1 nm H r x.1 with
    | some H' => puts (nm + 1) H' (s :: rs) x.2
    | none => none
def retS : List D → S
  | [d] => .d d
  | ds => .tup ds
/-- A call. -/
structure CallR where
  f : Nat
  as : List D
  rs : List RT      -- results, and the rows that come back
  fin : RI rs → Option (S × Hp)
def callI (H : Hp) (nm : Nat) (f : Option Nat) (rs : List RT) (io : Bool) (ss : List S) : Option CallR :=
  match io with
  | false => match f with
    | some g => match argDs H ss with
      | some as =>
        cond (rs.any RT.sl && !ss.all S.plain) none <|
        some ⟨g, as, rs, fun r => (puts nm (cond (rs.any RT.sl) (frzs H ss) H) rs r).map fun H1 => (retS (imps nm rs r), H1)⟩
      | none => none
    | none => match ss with
      | .d c :: ss => match argD H c, argDs H ss with
        | some (.cloi g l), some as => cond (rs.any RT.sl) none <| some ⟨g, as ++ l.map fun v => .iptr v.t v.x, rs, fun r => (puts nm H rs r).map fun H1 => (retS (imps nm rs r), H1)⟩
        | _, _ => none
      | _ => none
  | true => match f, rs, ss with
    | some g, [], [.d (.ref n)] => match H n with
      | some (.arr e xs .lv) => some ⟨g, [.own e xs], [.o e], fun r => some (.d .undef, upd H n (.arr e r .lv))⟩
      | _ => none
    | _, _, _ => none

def setT (tm : List S) : Option Nat → S → List S
  | some n, s => tm.set n s
  | none, _ => tm
/-- The same, one at a time. -/
def step1 (C : CallF) (o : Op) (tm : List S) (H : Hp) : Option (List S × Hp) :=
  match evXs tm o.xs with
  | none => none
  | some ss => match o.i with
    | .call nm f rs io => match callI H nm f rs io ss with
      | some c => (callT C c.rs c.f c.as).bind fun r => match c.fin r with
        | some (s, H') => some (setT tm o.dst s, H')
        | none => none
      | none => none
    | i => match core H i ss with
      | some (c, s, H') => @ite _ c.p c.dec (some (setT tm o.dst s, H')) none
      | none => none
def exec1 (C : CallF) (o : Op) (tm : List S) (H : Hp) : Option (List S × Hp) :=
  match o.grd with
  | none => step1 C o tm H
  | some (j, w) => match tm[j]? with
    | some (.d (.val .bool b)) => if b = w then step1 C o tm H else some (setT tm o.dst (.d .skp), H)
    | some (.d .skp) => some (setT tm o.dst (.d .skp), H)
    | _ => none
def execs (C : CallF) : List Op → List S → Hp → Option (List S × Hp)
  | [], tm, H => some (tm, H)
  | o :: os, tm, H => (exec1 C o tm H).bind fun x => execs C os x.1 x.2
abbrev R := List D
/-- An operation that is carried out, then K. -/
def opK (C : CallF) (o : Op) (tm : List S) (H : Hp) (K : List S → Hp → Option R) : Option R :=
  match evXs tm o.xs with
  | none => none
  | some ss => match o.i with
    | .call nm f rs io => match callI H nm f rs io ss with
      | some c => (callT C c.rs c.f c.as).bind fun r => match c.fin r with
        | some (s, H') => K (setT tm o.dst s) H'
        | none => none
      | none => none
    | i => match core H i ss with
      | some (c, s, H') => @ite _ c.p c.dec (K (setT tm o.dst s) H') none
      | none => none
def opsK (C : CallF) : List Op → List S → Hp → (List S → Hp → Option R) → Option R
  | [], tm, H, K => K tm H
  | o :: os, tm, H, K => match o.grd with
    | none => opK C o tm H fun tm' H' => opsK C os tm' H' K
    | some (j, w) => match tm[j]? with
      | some (.d (.val .bool b)) =>
        if b = true then cond w (opK C o (tm.set j (.d (.val .bool true))) H fun tm' H' => opsK C os tm' H' K) (opsK C os (setT (tm.set j (.d (.val .bool true))) o.dst (.d .skp)) H K)
        else cond w (opsK C os (setT (tm.set j (.d (.val .bool false))) o.dst (.d .skp)) H K) (opK C o (tm.set j (.d (.val .bool false))) H fun tm' H' => opsK C os tm' H' K)
      | some (.d .skp) => opsK C os (setT tm o.dst (.d .skp)) H K
      | _ => none

inductive Cd where
  | skip
  | reg (draw : Bool) (ops : List Op)
  | seq (a b : Cd)
  | cond (x : X) (a b : Cd)
  | block (id : Nat) (c : Cd)
  | loop (base : Nat) (keep : List Nat) (c : Cd)
  | exit (id : Nat)
  | ret
inductive Ex where
  | normal | exit (id : Nat) | ret

/-- At the head of a loop: what is kept, its rows and variables under names of their own. -/
def namesD : D → List Nat
  | .ref n => [n]
  | .view n _ => [n]
  | .ptr n _ _ => [n]
  | .clo _ caps => caps
  | _ => []
def namesS : S → List Nat
  | .d d => namesD d
  | .tup _ => []
def addN (l : List Nat) : List Nat → List Nat
  | [] => l
  | n :: ns => addN (cond (Nat.beq n 900000 || l.elem n) l (l ++ [n])) ns
def inner (H : Hp) (n : Nat) : List Nat :=
  match H n with
  | some (.box _ d) => namesD d
  | _ => []
def gather (tm : List S) (H : Hp) (keep : List Nat) : List Nat :=
  let l0 := addN [] (keep.flatMap fun k => match tm[k]? with | some s => namesS s | none => [])
  let l1 := addN l0 (l0.flatMap (inner H))
  addN l1 (l1.flatMap (inner H))
def idx (n : Nat) : List Nat → Nat → Option Nat
  | [], _ => none
  | m :: ms, b => cond (Nat.beq n m) (some b) (idx n ms (b + 1))
/-- Rows that were handed in keep their names. -/
def ren (l : List Nat) (b n : Nat) : Option Nat := cond (Nat.beq n 900000) (some 900000) (idx n l b)
def renL (l : List Nat) (b : Nat) : List Nat → Option (List Nat)
  | [] => some []
  | n :: ns => match cond (Nat.beq n 900000) none (ren l b n), renL l b ns with
    | some m, some ms => some (m :: ms)
    | _, _ => none
def renD (l : List Nat) (b : Nat) : D → D
  | .ref n => match ren l b n with | some m => .ref m | none => .undef
  | .view n k => match ren l b n with | some m => .view m k | none => .undef
  | .ptr n i p => match ren l b n with | some m => .ptr m i p | none => .undef
  | .clo f caps => match renL l b caps with | some cs => .clo f cs | none => .undef
  | d => d
def renS (l : List Nat) (b : Nat) : S → S
  | .d d => .d (renD l b d)
  | .tup _ => .d .undef
def renO (l : List Nat) (b : Nat) : Ob → Ob
  | .box t d => .box t (renD l b d)
  | o => o
def renI : Ob → Ob
  | .box _ _ => .dead
  | o => o
/-- A memory that is written out. -/
def ofL : List (Nat × Ob) → Hp
  | [] => fun _ => none
  | x :: r => fun m => cond (Nat.beq m x.1) (some x.2) (ofL r m)
def renP (H : Hp) (l : List Nat) (b : Nat) : List Nat → Nat → List (Nat × Ob)
  | [], _ => match H 900000 with
    | some o => [(900000, renI o)]
    | none => []
  | n :: ns, k => match H n with
    | some o => (k, renO l b o) :: renP H l b ns (k + 1)
    | none => renP H l b ns (k + 1)
def renH (H : Hp) (l : List Nat) (b : Nat) : Hp := ofL (renP H l b l b)
def keepS (l : List Nat) (b : Nat) (keep : List Nat) : List S → Nat → List S
  | [], _ => []
  | s :: ss, i => cond (keep.elem i) (renS l b s) (.d .undef) :: keepS l b keep ss (i + 1)
abbrev Kt := Ex → List S → Hp → Option R
def headK (base : Nat) (keep : List Nat) (K : List S → Hp → Option R) (tm : List S) (H : Hp) : Option R :=
  cond (Nat.ble (base + (gather tm H keep).length) 900000) (K (keepS (gather tm H keep) base keep tm 0) (renH H (gather tm H keep) base)) none
def loopK (bd : List S → Hp → Kt → Option R) (base : Nat) (keep : List Nat) (K : Kt) : Nat → List S → Hp → Option R
  | 0, _, _ => none
  | n + 1, tm, H =>
    bd tm H fun e tm' H' => match e with
      | .normal => headK base keep (loopK bd base keep K n) tm' H'
      | e => K e tm' H'
def ev (C : CallF) (k : Nat) : Cd → List S → Hp → Kt → Option R
  | .skip, tm, H, K => K .normal tm H
  | .reg _ ops, tm, H, K => opsK C ops tm H fun tm' H' => K .normal tm' H'
  | .seq a b, tm, H, K => ev C k a tm H fun e tm' H' => match e with
    | .normal => ev C k b tm' H' K
    | e => K e tm' H'
  | .cond x a b, tm, H, K => match evX tm x with
    | some (.d (.val .bool c)) => if c = true then ev C k a tm H K else ev C k b tm H K
    | _ => none
  | .block id c, tm, H, K => ev C k c tm H fun e tm' H' => match e with
    | .exit i => _root_.cond (Nat.beq i id) (K .normal tm' H') (K (.exit i) tm' H')
    | e => K e tm' H'
  | .loop base keep c, tm, H, K => headK base keep (loopK (fun tm H K => ev C k c tm H K) base keep K k) tm H
  | .exit id, tm, H, K => K (.exit id) tm H
  | .ret, tm, H, K => K .ret tm H

/-- A function's results. -/
inductive RV where
  | t (n : Nat) | c (n : Nat) (t : Ty)
structure Fn where
  np : Nat
  nt : Nat
  res : List RV
  rs : List RT
  sp : Option Ty      -- a function that asks whether its one argument is nil
  body : Cd
/-- Arguments come into the function's memory. -/
def inS : List D → List S
  | .own _ _ :: ds => .d (.ref 900000) :: ds.map .d
  | ds => ds.map .d
def inH : List D → Hp
  | .own e xs :: _ => upd (fun _ => none) 900000 (.arr e xs .io)
  | _ => fun _ => none
/-- Results leave it. -/
def exp1 (H : Hp) : RT → D → Option (List Nat × D)
  | .v t, d => (snap H t d).map fun x => (match d with | .ref n => [n] | _ => [], .val t x)
  | .o e, .ref n => match H n with
    | some (.arr e' xs .lv) => (castT (.sl e') (.sl e) xs).map fun xs => ([n], .own e xs)
    | _ => none
  | .o e, .nil => some ([], .own e [])
  | .o _, _ => none
def exps (H : Hp) : List RT → List D → Option (List Nat × List D)
  | [], [] => some ([], [])
  | r :: rs, d :: ds => match exp1 H r d, exps H rs ds with
    | some x, some y => cond (x.1.any y.1.elem) none (some (x.1 ++ y.1, x.2 :: y.2))
    | _, _ => none
  | _, _ => none
def resD (tm : List S) (H : Hp) : List RV → Option (List D)
  | [] => some []
  | r :: rs =>
    match (match r with
      | .t n => match tm[n]? with | some (.d d) => some d | _ => none
      | .c n t => match tm[n]? with | some (.d (.ptr m 0 [])) => ldAt H t m 0 [] | _ => none), resD tm H rs with
    | some d, some ds => some (d :: ds)
    | _, _ => none
def ioOut (H : Hp) : List D → Option (List D)
  | .own e _ :: _ => match H 900000 with
    | some (.arr e' xs .io) => (castT (.sl e') (.sl e) xs).map fun xs => [.own e xs]
    | _ => none
  | _ => some []
def leave (f : Fn) (as : List D) (tm : List S) (H : Hp) : Option R :=
  match resD tm H f.res with
  | some ds => match exps H f.rs ds, ioOut H as with
    | some (_, rs), some os => cond (os.isEmpty || rs.isEmpty) (some (rs ++ os)) none
    | _, _ => none
  | none => none
def runF (C : CallF) (k : Nat) (f : Fn) (as : List D) : Option R :=
  cond (Nat.beq as.length f.np) (ev C k f.body (inS as ++ List.replicate (f.nt - f.np) (.d .undef)) (inH as) fun e tm H => match e with
    | .exit _ => none
    | _ => leave f as tm H) none
def evF (G : Nat → Option Fn) : Nat → CallF
  | 0, _, _ => none
  | k + 1, f, as => match G f with
    | some fn => match fn.sp with
      | none => runF (evF G k) k fn as
      | some e => match as with
        | [.val t x] => match castT t (.sl e) x with
          | some xs => runF (evF G k) k fn [.nn e xs]
          | none => none
        | _ => none
    | none => none
end Pm
end
section
/- What the plain values stand for in the machine's memory. -/
namespace Pm
open Go Go.RowKit

theorem add_block (a : Addr) (n : Nat) : (a.add n).block = a.block := by unfold Addr.add; split <;> rfl
theorem cell_move {w w' : World} {a : Addr} {n : Nat} {v : Value} (h : w'.heap[a.block]? = w.heap[a.block]?) (hc : w.cell? (a.add n) = some v) : w'.cell? (a.add n) = some v := by
  rw [← hc]; exact World.cell?_of_block (by rw [add_block]; exact h)
/-- The cells of a value: it leads to blocks that are 'ok' alone. -/
def VDen (ok : Nat → Prop) (w : World) : (t : Ty) → t.I → List Value → Prop
  | .int k, x, cs => cs = [.int k x]
  | .bool, x, cs => cs = [.bool x]
  | .str, x, cs => cs = [.string x]
  | .unit, _, cs => cs = []
  | .pair a b, x, cs => ∃ c1 c2, cs = c1 ++ c2 ∧ VDen ok w a x.1 c1 ∧ VDen ok w b x.2 c2
  | .sl e, xs, cs => ∃ A c, cs = [.slice A (List.length xs) c] ∧ (List.length xs ≤ c ∧ (A = none → c = 0)) ∧
      ∀ i (h : i < List.length xs), ∃ ad ecs, A = some ad ∧ VDen ok w e (xs[i]) ecs ∧ (∀ j v, ecs[j]? = some v → w.cell? (ad.add (i * e.sz + j)) = some v) ∧ ok ad.block
def RowsD (ok : Nat → Prop) (w : World) (e : Ty) (A : Option Addr) (xs : List e.I) : Prop :=
  ∀ i (h : i < xs.length), ∃ ad ecs, A = some ad ∧ VDen ok w e (xs[i]) ecs ∧ (∀ j v, ecs[j]? = some v → w.cell? (ad.add (i * e.sz + j)) = some v) ∧ ok ad.block
theorem VDen_sl {ok : Nat → Prop} {w : World} {e : Ty} {xs : List e.I} {cs : List Value} :
    VDen ok w (.sl e) xs cs ↔ ∃ A c, cs = [.slice A xs.length c] ∧ (xs.length ≤ c ∧ (A = none → c = 0)) ∧ RowsD ok w e A xs := Iff.rfl
theorem rows_nil {ok : Nat → Prop} {w : World} {e : Ty} {xs : List e.I} {A : Option Addr} (h : RowsD ok w e A xs) (ha : A = none) : xs.length = 0 := by
  rcases Nat.eq_zero_or_pos xs.length with h0 | h0
  · exact h0
  · obtain ⟨ad, _, h1, _⟩ := h 0 h0; rw [ha] at h1; cases h1

theorem VDen.length {ok : Nat → Prop} {w : World} : ∀ {t : Ty} {x : t.I} {cs : List Value}, VDen ok w t x cs → cs.length = t.sz
  | .int _, _, _, h => by rw [show _ = _ from h]; rfl
  | .bool, _, _, h => by rw [show _ = _ from h]; rfl
  | .str, _, _, h => by rw [show _ = _ from h]; rfl
  | .unit, _, _, h => by rw [show _ = _ from h]; rfl
  | .pair a b, _, _, ⟨c1, c2, e, h1, h2⟩ => by rw [e, List.length_append, h1.length, h2.length]; rfl
  | .sl e, _, _, ⟨A, c, e', _, _⟩ => by rw [e']; rfl
theorem VDen.one {ok : Nat → Prop} {w : World} : ∀ {t : Ty} {x : t.I} {cs : List Value}, VDen ok w t x cs → ∀ v ∈ cs, v.oneCell' = true
  | .int _, _, _, h => by rw [show _ = _ from h]; intro v hv; simp at hv; rw [hv]; rfl
  | .bool, _, _, h => by rw [show _ = _ from h]; intro v hv; simp at hv; rw [hv]; rfl
  | .str, _, _, h => by rw [show _ = _ from h]; intro v hv; simp at hv; rw [hv]; rfl
  | .unit, _, _, h => by rw [show _ = _ from h]; intro v hv; simp at hv
  | .pair a b, _, _, ⟨c1, c2, e, h1, h2⟩ => by
    rw [e]; intro v hv
    rcases List.mem_append.1 hv with h | h
    · exact h1.one v h
    · exact h2.one v h
  | .sl e, _, _, ⟨A, c, e', _, _⟩ => by rw [e']; intro v hv; simp at hv; rw [hv]; rfl
theorem VDen.mono {ok ok' : Nat → Prop} {w w' : World} (h1 : ∀ b, ok b → ok' b) (h2 : ∀ b, ok b → w'.heap[b]? = w.heap[b]?) : ∀ {t : Ty} {x : t.I} {cs : List Value}, VDen ok w t x cs → VDen ok' w' t x cs
  | .int _, _, _, h => h
  | .bool, _, _, h => h
  | .str, _, _, h => h
  | .unit, _, _, h => h
  | .pair a b, _, _, ⟨c1, c2, e, p, q⟩ => ⟨c1, c2, e, p.mono h1 h2, q.mono h1 h2⟩
  | .sl e, _, _, ⟨A, c, e', l, h⟩ => ⟨A, c, e', l, fun i hi =>
    let ⟨ad, ecs, ha, hv, hc, ho⟩ := h i hi
    ⟨ad, ecs, ha, hv.mono h1 h2, fun j v hj => cell_move (h2 _ ho) (hc j v hj), h1 _ ho⟩⟩
theorem RowsD.mono {ok ok' : Nat → Prop} {w w' : World} (h1 : ∀ b, ok b → ok' b) (h2 : ∀ b, ok b → w'.heap[b]? = w.heap[b]?) {e : Ty} {A : Option Addr} {xs : List e.I} (h : RowsD ok w e A xs) : RowsD ok' w' e A xs :=
  fun i hi => let ⟨ad, ecs, ha, hv, hc, ho⟩ := h i hi
    ⟨ad, ecs, ha, hv.mono h1 h2, fun j v hj => cell_move (h2 _ ho) (hc j v hj), h1 _ ho⟩

/-- A value of cells: a struct's is one of its own. -/
def packV (t : Ty) (cs : List Value) : Value := cond t.agg (.agg cs.toArray) (cs.headD undef)
def VV (ok : Nat → Prop) (w : World) (t : Ty) (x : t.I) (v : Value) : Prop := ∃ cs, VDen ok w t x cs ∧ v = packV t cs
theorem cells_one {v : Value} (h : v.oneCell' = true) : v.cells = #[v] := by cases v <;> first | rfl | (simp [Value.oneCell'] at h)
theorem packV_cells {ok : Nat → Prop} {w : World} {t : Ty} {x : t.I} {cs : List Value} (h : VDen ok w t x cs) : (packV t cs).cells = cs.toArray := by
  have hl := h.length; have h1 := h.one
  unfold packV
  cases t with
  | unit => rfl
  | pair a b => rfl
  | _ =>
    simp only [Ty.agg, cond_false]
    match cs, hl with
    | [c], _ => exact cells_one (h1 c (by simp))
theorem VV.mono {ok ok' : Nat → Prop} {w w' : World} (h1 : ∀ b, ok b → ok' b) (h2 : ∀ b, ok b → w'.heap[b]? = w.heap[b]?) {t : Ty} {x : t.I} {v : Value} (h : VV ok w t x v) : VV ok' w' t x v :=
  let ⟨cs, a, b⟩ := h; ⟨cs, a.mono h1 h2, b⟩

def IDen (ok : Nat → Prop) (w : World) (t : Ty) (x : t.I) (v : Value) : Prop :=
  ∃ a cs, v = .pointer (some a) ∧ VDen ok w t x cs ∧ (∀ j u, cs[j]? = some u → w.cell? (a.add j) = some u) ∧ (cs ≠ [] → ok a.block)
theorem IDen.mono {ok ok' : Nat → Prop} {w w' : World} (h1 : ∀ b, ok b → ok' b) (h2 : ∀ b, ok b → w'.heap[b]? = w.heap[b]?) {t : Ty} {x : t.I} {v : Value} (h : IDen ok w t x v) : IDen ok' w' t x v := by
  obtain ⟨a, cs, e, hv, hc, ho⟩ := h
  refine ⟨a, cs, e, hv.mono h1 h2, fun j u hj => ?_, fun hn => h1 _ (ho hn)⟩
  have : cs ≠ [] := by intro e; rw [e] at hj; simp at hj
  exact cell_move (h2 _ (ho this)) (hc j u hj)

def All2 {α β : Type} (p : α → β → Prop) : List α → List β → Prop
  | [], [] => True
  | a :: as, b :: bs => p a b ∧ All2 p as bs
  | _, _ => False
theorem All2.imp {α β : Type} {p q : α → β → Prop} (h : ∀ a b, p a b → q a b) : ∀ {l : List α} {m : List β}, All2 p l m → All2 q l m
  | [], [], _ => trivial
  | _ :: _, _ :: _, ⟨a, b⟩ => ⟨h _ _ a, b.imp h⟩
theorem All2.length {α β : Type} {p : α → β → Prop} : ∀ {l : List α} {m : List β}, All2 p l m → l.length = m.length
  | [], [], _ => rfl
  | _ :: _, _ :: _, ⟨_, b⟩ => by simp [b.length]
theorem All2.get {α β : Type} {p : α → β → Prop} : ∀ {l : List α} {m : List β} (_ : All2 p l m) (i : Nat) (a : α), l[i]? = some a → ∃ b, m[i]? = some b ∧ p a b
  | a :: l, b :: m, ⟨h, t⟩, 0, x, hx => by simp at hx; subst hx; exact ⟨b, rfl, h⟩
  | a :: l, b :: m, ⟨h, t⟩, i + 1, x, hx => by simp at hx; obtain ⟨y, h1, h2⟩ := t.get i x hx; exact ⟨y, by simpa using h1, h2⟩
  | [], [], _, i, x, hx => by simp at hx
theorem All2.append {α β : Type} {p : α → β → Prop} : ∀ {l : List α} {m : List β} {l' : List α} {m' : List β}, All2 p l m → All2 p l' m' → All2 p (l ++ l') (m ++ m')
  | [], [], _, _, _, h => h
  | _ :: _, _ :: _, _, _, ⟨a, b⟩, h => ⟨a, b.append h⟩

def blk : Value → Option Nat
  | .slice (some a) _ _ => some a.block
  | .pointer (some a) => some a.block
  | _ => none
def Ob.live : Ob → Bool
  | .arr _ _ .fr => false
  | .dead => false
  | _ => true
/-- What a function is told of its surroundings: the numbers of functions, the blocks that it may rely on, the first block of its own, the blocks that it is given to write. -/
structure Ctx where
  ρ : Nat → Option Nat
  ok0 : Nat → Prop
  base : Nat
  wr : Nat → Prop
  iov : Nat → Value
def okB (X : Ctx) (φ : Nat → Value) (H : Hp) (N b : Nat) : Prop :=
  (X.ok0 b ∨ X.base ≤ b) ∧ b < N ∧ ∀ n o, H n = some o → o.live = true → blk (φ n) ≠ some b
def viewV (φn : Value) (l sz : Nat) : Value :=
  match φn with
  | .slice A len cap => .slice (if cap = l then A else A.map (·.add (l * sz))) (len - l) (cap - l)
  | _ => undef
def ptrAt (o : Ob) (i : Nat) (p : List Bool) (bl : Option Nat) (v : Value) : Prop :=
  match o with
  | .dead => True
  | .arr e xs _ => i < xs.length ∧ (subT e p).isSome = true ∧ ∃ b, bl = some b ∧ v = .pointer (some ⟨b, i * e.sz + e.off p, none⟩)
  | .box t _ => (subT t p).isSome = true ∧ ∃ b, bl = some b ∧ v = .pointer (some ⟨b, t.off p, none⟩)
def viewAt (o : Ob) (l : Nat) (φn v : Value) : Prop :=
  match o with
  | .dead => True
  | .arr e xs _ => l ≤ xs.length ∧ v = viewV φn l e.sz
  | .box _ _ => False
def Ob.row : Ob → Bool
  | .box _ _ => false
  | _ => true
def DDen (ρ : Nat → Option Nat) (ok : Nat → Prop) (φ : Nat → Value) (H : Hp) (w : World) : D → Value → Prop
  | .undef, _ => True
  | .skp, v => v = undef
  | .val t x, v => VV ok w t x v
  | .nil, v => v = .slice none 0 0
  | .fsl e xs, v => ∃ A, v = .slice A xs.length xs.length ∧ RowsD ok w e A xs
  | .nn e xs, v => ∃ a c, v = .slice (some a) xs.length c ∧ xs.length ≤ c ∧ RowsD ok w e (some a) xs
  | .ref n, v => v = φ n ∧ v.oneCell' = true ∧ ∃ o, H n = some o ∧ o.row = true
  | .view n l, v => ∃ o, H n = some o ∧ viewAt o l (φ n) v
  | .ptr n i p, v => ∃ o, H n = some o ∧ ptrAt o i p (blk (φ n)) v
  | .iptr t x, v => IDen ok w t x v
  | .clo f caps, v => ∃ fid, ρ fid = some f ∧ v = .func (.func fid) #[] (caps.map φ).toArray ∧ ∀ n ∈ caps, ∃ t d, H n = some (.box t d)
  | .cloi f l, v => ∃ fid vs, ρ fid = some f ∧ v = .func (.func fid) #[] vs.toArray ∧ All2 (fun (y : TV) u => IDen ok w y.t y.x u) l vs
  | .own _ _, _ => False
def SDen (ρ : Nat → Option Nat) (ok : Nat → Prop) (φ : Nat → Value) (H : Hp) (w : World) : S → Value → Prop
  | .d d, v => DDen ρ ok φ H w d v
  | .tup ds, v => ∃ vs, v = .tuple vs.toArray ∧ All2 (DDen ρ ok φ H w) ds vs

/-- An object may turn into another one: what addresses stand for stays. -/
def Sim : Ob → Ob → Prop
  | .arr e xs _, o => o = .dead ∨ ∃ xs' l, o = .arr e xs' l ∧ xs'.length = xs.length
  | .box t _, o => ∃ d, o = .box t d
  | .dead, o => o = .dead
theorem Sim.refl (o : Ob) : Sim o o := by cases o <;> simp [Sim]
theorem DDen.mono {ρ : Nat → Option Nat} {ok ok' : Nat → Prop} {φ φ' : Nat → Value} {H H' : Hp} {w w' : World} (h1 : ∀ b, ok b → ok' b) (h2 : ∀ b, ok b → w'.heap[b]? = w.heap[b]?)
    (h3 : ∀ n o, H n = some o → φ' n = φ n ∧ ∃ o', H' n = some o' ∧ Sim o o') : ∀ {d : D} {v : Value}, DDen ρ ok φ H w d v → DDen ρ ok' φ' H' w' d v
  | .undef, _, _ => trivial
  | .skp, _, h => h
  | .val _ _, _, h => VV.mono h1 h2 h
  | .nil, _, h => h
  | .fsl _ _, _, ⟨A, e, h⟩ => ⟨A, e, h.mono h1 h2⟩
  | .nn _ _, _, ⟨a, c, e, l, h⟩ => ⟨a, c, e, l, h.mono h1 h2⟩
  | .ref n, _, ⟨e, h1c, o, ho, hr⟩ => by
    obtain ⟨hφ, o', ho', hs⟩ := h3 n o ho
    refine ⟨by rw [e, hφ], h1c, o', ho', ?_⟩
    cases o with
    | arr e xs l => rcases hs with rfl | ⟨_, _, rfl, _⟩ <;> rfl
    | box => simp [Ob.row] at hr
    | dead => rw [show _ = _ from hs]; rfl
  | .view n l, _, ⟨o, ho, hv⟩ => by
    obtain ⟨hφ, o', ho', hs⟩ := h3 n o ho
    refine ⟨o', ho', ?_⟩
    rw [hφ]
    cases o with
    | arr e xs l => rcases hs with rfl | ⟨_, _, rfl, hl⟩ <;> simp_all [viewAt]
    | box => exact hv.elim
    | dead => rw [show _ = _ from hs]; trivial
  | .ptr n i p, _, ⟨o, ho, hv⟩ => by
    obtain ⟨hφ, o', ho', hs⟩ := h3 n o ho
    refine ⟨o', ho', ?_⟩
    rw [hφ]
    cases o with
    | arr e xs l => rcases hs with rfl | ⟨_, _, rfl, hl⟩ <;> simp_all [ptrAt]
    | box => obtain ⟨d, rfl⟩ := hs; exact hv
    | dead => rw [show _ = _ from hs]; trivial
  | .iptr _ _, _, h => IDen.mono h1 h2 h
  | .clo f caps, _, ⟨fid, hf, e, hc⟩ => by
    refine ⟨fid, hf, ?_, fun n hn => ?_⟩
    · rw [e]; congr 2
      apply List.map_congr_left
      intro n hn
      obtain ⟨t, d, ho⟩ := hc n hn
      exact (h3 n _ ho).1.symm
    · obtain ⟨t, d, ho⟩ := hc n hn
      obtain ⟨_, o', ho', d', rfl⟩ := h3 n _ ho
      exact ⟨t, d', ho'⟩
  | .cloi f l, _, ⟨fid, vs, hf, e, h⟩ => ⟨fid, vs, hf, e, h.imp fun _ _ => IDen.mono h1 h2⟩
theorem SDen.mono {ρ : Nat → Option Nat} {ok ok' : Nat → Prop} {φ φ' : Nat → Value} {H H' : Hp} {w w' : World} (h1 : ∀ b, ok b → ok' b) (h2 : ∀ b, ok b → w'.heap[b]? = w.heap[b]?)
    (h3 : ∀ n o, H n = some o → φ' n = φ n ∧ ∃ o', H' n = some o' ∧ Sim o o') : ∀ {s : S} {v : Value}, SDen ρ ok φ H w s v → SDen ρ ok' φ' H' w' s v
  | .d _, _, h => DDen.mono h1 h2 h3 h
  | .tup _, _, ⟨vs, e, h⟩ => ⟨vs, e, h.imp fun _ _ => DDen.mono h1 h2 h3⟩

def ElemsD (ok : Nat → Prop) (w : World) (e : Ty) (xs : List e.I) (cs : List Value) : Prop :=
  ∀ i (h : i < xs.length), VDen ok w e (xs[i]) ((cs.drop (i * e.sz)).take e.sz)
def ObDen (ρ : Nat → Option Nat) (ok : Nat → Prop) (φ : Nat → Value) (H : Hp) (w : World) (n : Nat) : Ob → Prop
  | .arr e xs _ => ∃ T cs, w.ownsRow 0 T e.sz (φ n) xs.length cs ∧ ElemsD ok w e xs cs
  | .box t d => cont t d = some d ∧ ∃ b T cs v, φ n = .pointer (some ⟨b, 0, none⟩) ∧ w.heap[b]? = some (.cells (List.toArray cs) T (0, 0)) ∧ DDen ρ ok φ H w d v ∧ v.cells = cs.toArray ∧ cs.length = t.sz
  | .dead => True
def Ob.isDead : Ob → Bool
  | .dead => true
  | _ => false
def Ob.isIo : Ob → Bool
  | .arr _ _ .io => true
  | _ => false
structure Rel (X : Ctx) (φ : Nat → Value) (tm : List S) (H : Hp) (a : Act) (w : World) : Prop where
  len : a.tmps.size = tm.length
  tms : ∀ i s, tm[i]? = some s → SDen X.ρ (okB X φ H w.heap.size) φ H w s (a.tmps.getD i undef)
  obs : ∀ n o, H n = some o → ObDen X.ρ (okB X φ H w.heap.size) φ H w n o
  mine : ∀ n o b, H n = some o → o.isDead = false → blk (φ n) = some b → if o.isIo = true then X.wr b else X.base ≤ b
  apart : ∀ n m o o' b, n ≠ m → H n = some o → H m = some o' → o.live = true → o'.isDead = false → blk (φ n) = some b → blk (φ m) ≠ some b
  bnd : X.base ≤ w.heap.size
  ok0 : ∀ b, X.ok0 b → b < X.base ∧ ¬ X.wr b
  wr : ∀ b, X.wr b → b < X.base
  dfs : a.defers = []
  iov : ∀ n o, H n = some o → o.isIo = true → φ n = X.iov n
/-- What has turned: new blocks, and the blocks that were given to be written. -/
structure Fr (X : Ctx) (w w' : World) : Prop where
  os : w'.os = w.os
  tape : w'.tape = w.tape
  output : w'.output = w.output
  size : w.heap.size ≤ w'.heap.size
  block : ∀ k, k < X.base → ¬ X.wr k → w'.heap[k]? = w.heap[k]?
theorem Fr.refl (X : Ctx) (w : World) : Fr X w w := ⟨rfl, rfl, rfl, Nat.le_refl _, fun _ _ _ => rfl⟩
theorem Fr.trans {X : Ctx} {a b c : World} (h : Fr X a b) (k : Fr X b c) : Fr X a c :=
  ⟨k.os.trans h.os, k.tape.trans h.tape, k.output.trans h.output, Nat.le_trans h.size k.size, fun i hi hw => (k.block i hi hw).trans (h.block i hi hw)⟩
theorem Fr.grown {X : Ctx} {w w' : World} {row : Option Nat} (hb : X.base ≤ w.heap.size) (hg : w.grownBy w' row) (hr : ∀ k, row = some k → X.base ≤ k ∨ X.wr k) : Fr X w w' :=
  ⟨hg.os, hg.tape, hg.output, hg.size, fun k hk hw => hg.block k (by omega) (fun e => by rcases hr k e.symm with h | h; omega; exact hw h)⟩
theorem Fr.drew (X : Ctx) (w : World) : Fr X w w.drew := ⟨rfl, rfl, rfl, Nat.le_refl _, fun _ _ _ => rfl⟩

def Body : Ob → Ob → Prop
  | .arr e xs _, o => ∃ l, o = .arr e xs l
  | o0, o => o = o0
theorem Body.refl (o : Ob) : Body o o := by cases o <;> simp [Body]
/-- One step: what is held before is held behind it. -/
theorem Rel.step {X : Ctx} {φ φ' : Nat → Value} {tm : List S} {H H' : Hp} {a : Act} {w w' : World} (R : Rel X φ tm H a w) (hsz : w.heap.size ≤ w'.heap.size)
    (hφ : ∀ n o, H n = some o → φ' n = φ n ∧ ∃ o', H' n = some o' ∧ Sim o o')
    (hblk : ∀ b, okB X φ H w.heap.size b → w'.heap[b]? = w.heap[b]?)
    (hok : ∀ b, okB X φ H w.heap.size b → okB X φ' H' w'.heap.size b)
    (hob : ∀ n o, H' n = some o → (∃ o0, H n = some o0 ∧ Body o0 o ∧ (o.isDead = false → ∀ b, blk (φ n) = some b → w'.heap[b]? = w.heap[b]?)) ∨ ObDen X.ρ (okB X φ' H' w'.heap.size) φ' H' w' n o)
    (hmine : ∀ n o b, H' n = some o → o.isDead = false → blk (φ' n) = some b → if o.isIo = true then X.wr b else X.base ≤ b)
    (hap : ∀ n m o o' b, n ≠ m → H' n = some o → H' m = some o' → o.live = true → o'.isDead = false → blk (φ' n) = some b → blk (φ' m) ≠ some b)
    (hio : ∀ n o, H' n = some o → o.isIo = true → φ' n = X.iov n) : Rel X φ' tm H' a w' where
  len := R.len
  tms i s h := SDen.mono hok hblk hφ (R.tms i s h)
  obs n o h := by
    rcases hob n o h with ⟨o0, h0, hbd, hb⟩ | h0
    · have hd := R.obs n o0 h0
      have hp := (hφ n o0 h0).1
      cases o0 with
      | arr e xs l =>
        obtain ⟨l', rfl⟩ := hbd
        obtain ⟨T, cs, hr, he⟩ := hd
        refine ⟨T, cs, ?_, fun i hi => (he i hi).mono hok hblk⟩
        rw [hp]
        refine ⟨hr.1, ?_⟩
        rcases hr.2 with hn | ⟨g, cap, cur, hv, hg, hh, r⟩
        · exact .inl hn
        · exact .inr ⟨g, cap, cur, hv, hg, by rw [hb rfl g (by rw [hv]; rfl)]; exact hh, r⟩
      | box t d =>
        obtain rfl : o = _ := hbd
        obtain ⟨hc, b, T, cs, v, h1, h2, h3, h4, h5⟩ := hd
        exact ⟨hc, b, T, cs, v, by rw [hp, h1], by rw [hb rfl b (by rw [h1]; rfl)]; exact h2, DDen.mono hok hblk hφ h3, h4, h5⟩
      | dead => obtain rfl : o = _ := hbd; trivial
    · exact h0
  mine := hmine
  apart := hap
  bnd := Nat.le_trans R.bnd hsz
  ok0 := R.ok0
  wr := R.wr
  dfs := R.dfs
  iov := hio
theorem Rel.put {X : Ctx} {φ : Nat → Value} {tm : List S} {H : Hp} {a : Act} {w : World} (R : Rel X φ tm H a w) (dst : Option Nat) {s : S} {v : Value} (h : dst.isSome = true → SDen X.ρ (okB X φ H w.heap.size) φ H w s v) : Rel X φ (setT tm dst s) H (a.put dst v) w := by
  cases dst with
  | none => exact ⟨R.len, R.tms, R.obs, R.mine, R.apart, R.bnd, R.ok0, R.wr, R.dfs, R.iov⟩
  | some n =>
    refine ⟨by simp [setT, Act.put, R.len], fun i s' hi => ?_, R.obs, R.mine, R.apart, R.bnd, R.ok0, R.wr, R.dfs, R.iov⟩
    simp only [setT, List.getElem?_set] at hi
    simp only [Act.put]
    by_cases e : n = i
    · subst e
      rw [if_pos rfl] at hi
      split at hi
      · rename_i hlt
        injection hi with hi; subst hi
        have : n < a.tmps.size := by rw [R.len]; exact hlt
        simp [Array.getD, this, h]
      · cases hi
    · rw [if_neg e] at hi
      have hlt : i < tm.length := by
        rcases Nat.lt_or_ge i tm.length with h | h
        · exact h
        · rw [List.getElem?_eq_none h] at hi; cases hi
      have h2 := R.tms i s' hi
      have : i < a.tmps.size := by rw [R.len]; exact hlt
      rw [show (a.tmps.setIfInBounds n v).getD i undef = a.tmps.getD i undef from by simp [Array.getElem?_setIfInBounds_ne e]]
      exact h2
end Pm
end
section
/- Fields, kinds of types, loads and stores: each shown once, for every kind. -/
namespace Pm
open Go Go.RowKit

theorem off_nil (t : Ty) : t.off [] = 0 := by cases t <;> rfl
theorem subT_nil (t : Ty) : subT t [] = some t := by cases t <;> rfl
theorem getP_nil (t : Ty) (x : t.I) : getP t x [] = some ⟨t, x⟩ := by cases t <;> rfl
theorem setP_nil (t : Ty) (x : t.I) (v : TV) : setP t x [] v = castT v.t t v.x := by cases t <;> rfl
theorem cut_left {α : Type} {c1 c2 : List α} {o s : Nat} (h : ((c1.drop o).take s).length = s) : ((c1 ++ c2).drop o).take s = (c1.drop o).take s := by
  simp only [List.length_take, List.length_drop] at h
  rcases Nat.lt_or_ge c1.length o with h1 | h1
  · have : s = 0 := by omega
    subst this; simp
  · rw [List.drop_append_of_le_length h1, List.take_append_of_le_length (by simp; omega)]
theorem cut_right {α : Type} {c1 c2 : List α} {o k : Nat} (h : c1.length = k) : (c1 ++ c2).drop (k + o) = c2.drop o := by
  subst h; rw [← List.drop_drop, List.drop_left]
theorem getP_den {ok : Nat → Prop} {w : World} : ∀ (p : List Bool) (T : Ty) (x : T.I) (cs : List Value), VDen ok w T x cs → ∀ v, getP T x p = some v → subT T p = some v.t ∧ VDen ok w v.t v.x ((cs.drop (T.off p)).take v.t.sz)
  | [], T, x, cs, h, v, hv => by
    rw [getP_nil] at hv; injection hv with hv; subst hv
    rw [subT_nil, off_nil, List.drop_zero, ← h.length, List.take_length]
    exact ⟨rfl, h⟩
  | false :: p, .pair a b, x, cs, ⟨c1, c2, e, h1, h2⟩, v, hv => by
    obtain ⟨i1, i2⟩ := getP_den p a x.1 c1 h1 v hv
    refine ⟨i1, ?_⟩
    rw [e, show (Ty.pair a b).off (false :: p) = a.off p from rfl, cut_left i2.length]
    exact i2
  | true :: p, .pair a b, x, cs, ⟨c1, c2, e, h1, h2⟩, v, hv => by
    obtain ⟨i1, i2⟩ := getP_den p b x.2 c2 h2 v hv
    refine ⟨i1, ?_⟩
    rw [e, show (Ty.pair a b).off (true :: p) = a.sz + b.off p from rfl, cut_right h1.length]
    exact i2
  | _ :: _, .int _, _, _, _, _, hv | _ :: _, .bool, _, _, _, _, hv | _ :: _, .str, _, _, _, _, hv | _ :: _, .unit, _, _, _, _, hv | _ :: _, .sl _, _, _, _, _, hv => by simp [getP] at hv
theorem getP_sub : ∀ (p : List Bool) (T : Ty) (x : T.I) (v : TV), getP T x p = some v → subT T p = some v.t
  | [], T, x, v, hv => by rw [getP_nil] at hv; injection hv with hv; subst hv; exact subT_nil _
  | false :: p, .pair a b, x, v, hv => getP_sub p a x.1 v hv
  | true :: p, .pair a b, x, v, hv => getP_sub p b x.2 v hv
  | _ :: _, .int _, _, _, hv | _ :: _, .bool, _, _, hv | _ :: _, .str, _, _, hv | _ :: _, .unit, _, _, hv | _ :: _, .sl _, _, _, hv => by simp [getP] at hv
theorem subT_fits : ∀ (p : List Bool) (T t : Ty), subT T p = some t → T.off p + t.sz ≤ T.sz
  | [], T, t, h => by rw [subT_nil] at h; injection h with h; subst h; rw [off_nil]; omega
  | false :: p, .pair a b, t, h => by have := subT_fits p a t h; show a.off p + t.sz ≤ a.sz + b.sz; omega
  | true :: p, .pair a b, t, h => by have := subT_fits p b t h; show a.sz + b.off p + t.sz ≤ a.sz + b.sz; omega
  | _ :: _, .int _, _, h | _ :: _, .bool, _, h | _ :: _, .str, _, h | _ :: _, .unit, _, h | _ :: _, .sl _, _, h => by simp [subT] at h
theorem subT_append : ∀ (p q : List Bool) (T t : Ty), subT T p = some t → subT T (p ++ q) = subT t q ∧ T.off (p ++ q) = T.off p + t.off q
  | [], q, T, t, h => by rw [subT_nil] at h; injection h with h; subst h; rw [off_nil]; exact ⟨rfl, by simp⟩
  | false :: p, q, .pair a b, t, h => subT_append p q a t h
  | true :: p, q, .pair a b, t, h => by
    obtain ⟨h1, h2⟩ := subT_append p q b t h
    refine ⟨h1, ?_⟩
    show a.sz + b.off (p ++ q) = a.sz + b.off p + t.off q
    rw [h2]; omega
  | _ :: _, _, .int _, _, h | _ :: _, _, .bool, _, h | _ :: _, _, .str, _, h | _ :: _, _, .unit, _, h | _ :: _, _, .sl _, _, h => by simp [subT] at h
def splice {α : Type} (cs : List α) (o : Nat) (vs : List α) : List α := cs.take o ++ vs ++ cs.drop (o + vs.length)
theorem splice_length {α : Type} {cs : List α} {o : Nat} {vs : List α} (h : o + vs.length ≤ cs.length) : (splice cs o vs).length = cs.length := by simp [splice]; omega
theorem splice_all {α : Type} {cs vs : List α} (h : cs.length = vs.length) : splice cs 0 vs = vs := by simp [splice, h.symm]
theorem splice_left {α : Type} {c1 c2 vs : List α} {o : Nat} (h : o + vs.length ≤ c1.length) : splice (c1 ++ c2) o vs = splice c1 o vs ++ c2 := by
  unfold splice
  rw [List.take_append_of_le_length (by omega), List.drop_append_of_le_length h]
  simp
theorem splice_right {α : Type} {c1 c2 vs : List α} {o k : Nat} (h : c1.length = k) : splice (c1 ++ c2) (k + o) vs = c1 ++ splice c2 o vs := by
  subst h
  unfold splice
  rw [show c1.length + o + vs.length = c1.length + (o + vs.length) from by omega, ← List.drop_drop, List.drop_left, List.take_length_add_append]
  simp
theorem setP_den {ok : Nat → Prop} {w : World} {v : TV} {vs : List Value} (hv : VDen ok w v.t v.x vs) : ∀ (p : List Bool) (T : Ty) (x x' : T.I) (cs : List Value), VDen ok w T x cs → setP T x p v = some x' → subT T p = some v.t ∧ VDen ok w T x' (splice cs (T.off p) vs)
  | [], T, x, x', cs, h, hx => by
    rw [setP_nil] at hx
    obtain ⟨e, hx⟩ := castT_some hx
    obtain ⟨t, y⟩ := v
    simp only at e hx hv
    subst e
    simp only at hx
    subst hx
    rw [subT_nil, off_nil, splice_all (by rw [h.length, hv.length])]
    exact ⟨rfl, hv⟩
  | false :: p, .pair a b, x, x', cs, ⟨c1, c2, e, h1, h2⟩, hx => by
    obtain ⟨y, hy, rfl⟩ := Option.map_eq_some_iff.1 hx
    obtain ⟨i1, i2⟩ := setP_den hv p a x.1 y c1 h1 hy
    refine ⟨i1, splice c1 (a.off p) vs, c2, ?_, i2, h2⟩
    have := subT_fits p a _ i1
    rw [e]; exact splice_left (by rw [h1.length, hv.length]; exact this)
  | true :: p, .pair a b, x, x', cs, ⟨c1, c2, e, h1, h2⟩, hx => by
    obtain ⟨y, hy, rfl⟩ := Option.map_eq_some_iff.1 hx
    obtain ⟨i1, i2⟩ := setP_den hv p b x.2 y c2 h2 hy
    refine ⟨i1, c1, splice c2 (b.off p) vs, ?_, h1, i2⟩
    rw [e]; exact splice_right h1.length
  | _ :: _, .int _, _, _, _, _, hx | _ :: _, .bool, _, _, _, _, hx | _ :: _, .str, _, _, _, _, hx | _ :: _, .unit, _, _, _, _, hx | _ :: _, .sl _, _, _, _, _, hx => by simp [setP] at hx

/-- Is a type of a kind: sizes, places, zero values. -/
def zB : Ty → List Value → Bool
  | .int k, cs => match cs with | [.int k' n] => Nat.beq (kc k) (kc k') && decide (n = 0) | _ => false
  | .bool, cs => match cs with | [.bool b] => !b | _ => false
  | .str, cs => match cs with | [.string s] => Nat.beq s.size 0 | _ => false
  | .unit, cs => cs.isEmpty
  | .pair a b, cs => zB a (cs.take a.sz) && zB b (cs.drop a.sz)
  | .sl _, cs => match cs with | [.slice none 0 0] => true | _ => false
def infoB (P : Program) (T : Ty) (t : TypeId) : Bool :=
  match P.info? t with
  | some i => Nat.beq i.size T.sz && Nat.blt 0 i.bytes && (match i.zero with | some z => zB T z.cells.toList | none => false)
  | none => false
def tk (P : Program) : Ty → (TypeId → Bool) × (List Field → Nat → Bool)
  | .pair a b =>
    let A := tk P a; let B := tk P b
    let me := fun t => infoB P (.pair a b) t && match P.underlying t with
      | some (.struct fs) => match fs.toList with
        | f :: rest => Nat.beq f.offset 0 && A.1 f.type && B.2 rest a.sz
        | [] => false
      | _ => false
    (me, fun fs off => match fs with
      | [g] => Nat.beq g.offset off && me g.type
      | g :: h :: rest => Nat.beq g.offset off && A.1 g.type && B.2 (h :: rest) (off + a.sz)
      | [] => false)
  | .unit =>
    (fun t => infoB P .unit t && match P.underlying t with | some (.struct fs) => fs.toList.isEmpty | _ => false, fun fs _ => fs.isEmpty)
  | .sl e =>
    let E := tk P e
    let me := fun t => infoB P (.sl e) t && match P.underlying t with | some (.slice u) => E.1 u | _ => false
    (me, fun fs off => match fs with | [g] => Nat.beq g.offset off && me g.type | _ => false)
  | .int k =>
    let me := fun t => infoB P (.int k) t && match P.underlying t with | some (.int k') => Nat.beq (kc k) (kc k') | _ => false
    (me, fun fs off => match fs with | [g] => Nat.beq g.offset off && me g.type | _ => false)
  | .bool =>
    let me := fun t => infoB P .bool t && match P.underlying t with | some .bool => true | _ => false
    (me, fun fs off => match fs with | [g] => Nat.beq g.offset off && me g.type | _ => false)
  | .str =>
    let me := fun t => infoB P .str t && match P.underlying t with | some .string => true | _ => false
    (me, fun fs off => match fs with | [g] => Nat.beq g.offset off && me g.type | _ => false)
def tyOk (P : Program) (T : Ty) (t : TypeId) : Bool := (tk P T).1 t

theorem tyOk_info {P : Program} {T : Ty} {t : TypeId} (h : tyOk P T t = true) : infoB P T t = true := by
  unfold tyOk at h
  cases T <;> simp only [tk, Bool.and_eq_true] at h <;> exact h.1
theorem zB_den {ok : Nat → Prop} {w : World} : ∀ {T : Ty} {cs : List Value}, zB T cs = true → VDen ok w T T.z cs
  | .int k, cs, h => by
    unfold zB at h
    split at h
    · rename_i k' n
      simp only [Bool.and_eq_true, Nat.beq_eq, decide_eq_true_eq] at h
      rw [h.2, ← kc_inj h.1]; rfl
    · cases h
  | .bool, cs, h => by
    unfold zB at h
    split at h
    · rename_i b; cases b <;> simp at h; rfl
    · cases h
  | .str, cs, h => by
    unfold zB at h
    split at h
    · rename_i s
      have : s = ByteArray.empty := by
        simp only [Nat.beq_eq] at h
        obtain ⟨⟨l⟩⟩ := s
        cases l with
        | nil => rfl
        | cons a l => simp [ByteArray.size] at h
      rw [this]; rfl
    · cases h
  | .unit, cs, h => by
    simp only [zB, List.isEmpty_iff] at h; exact h
  | .pair a b, cs, h => by
    simp only [zB, Bool.and_eq_true] at h
    exact ⟨cs.take a.sz, cs.drop a.sz, (List.take_append_drop _ _).symm, zB_den h.1, zB_den h.2⟩
  | .sl e, cs, h => by
    unfold zB at h
    split at h
    · exact ⟨none, 0, rfl, ⟨Nat.le_refl _, fun _ => rfl⟩, fun i hi => by cases hi⟩
    · cases h
theorem info_of {P : Program} {T : Ty} {t : TypeId} (h : tyOk P T t = true) : ∃ i z, P.info? t = some i ∧ i.size = T.sz ∧ i.zero = some z ∧ zB T z.cells.toList = true ∧ 0 < i.bytes ∧ z.cells.size = T.sz := by
  have h := tyOk_info h
  unfold infoB at h
  split at h
  · rename_i i hi
    simp only [Bool.and_eq_true, Nat.beq_eq] at h
    split at h
    · rename_i z hz
      refine ⟨i, z, hi, h.1.1, hz, h.2, by simpa using h.1.2, ?_⟩
      have := (zB_den (ok := fun _ => True) (w := default) h.2).length
      simpa using this
    · simp at h
  · cases h
theorem agg_of {P : Program} {T : Ty} {t : TypeId} (h : tyOk P T t = true) (w : World) : (isAgg t).run P w = .ok T.agg w := by
  unfold tyOk at h
  unfold isAgg
  cases T <;> simp only [tk, Bool.and_eq_true] at h <;> (have h2 := h.2; revert h2; cases hu : P.underlying t with
    | none => simp
    | some d => cases d <;> simp [run_underlying hu, Ty.agg])
theorem int_of {P : Program} {k : IntKind} {t : TypeId} (h : tyOk P (.int k) t = true) : P.underlying t = some (.int k) := by
  unfold tyOk at h
  simp only [tk, Bool.and_eq_true] at h
  have h2 := h.2; revert h2
  cases hu : P.underlying t with
  | none => simp
  | some d => cases d <;> simp; rename_i k'; intro h2; rw [kc_inj h2]
theorem bool_of {P : Program} {t : TypeId} (h : tyOk P .bool t = true) : P.underlying t = some .bool := by
  unfold tyOk at h
  simp only [tk, Bool.and_eq_true] at h
  have h2 := h.2; revert h2
  cases hu : P.underlying t with
  | none => simp
  | some d => cases d <;> simp
theorem sl_of {P : Program} {e : Ty} {t : TypeId} (h : tyOk P (.sl e) t = true) : ∃ u, P.underlying t = some (.slice u) ∧ tyOk P e u = true := by
  unfold tyOk at h
  simp only [tk, Bool.and_eq_true] at h
  have h2 := h.2; revert h2
  cases hu : P.underlying t with
  | none => simp
  | some d => cases d <;> simp; rename_i u; intro h2; first | exact ⟨_, rfl, h2⟩ | exact h2 | (simp only [tyOk]; exact h2)

theorem add0 (a : Addr) : a.add 0 = a := by simp [Addr.add]
theorem add_add' (a : Addr) (i j : Nat) : (a.add i).add j = a.add (i + j) := Go.Deep.add_add a i j
theorem add_lit (g o j : Nat) : (⟨g, o, none⟩ : Addr).add j = ⟨g, o + j, none⟩ := by unfold Addr.add; split <;> simp_all
/-- A load. -/
theorem run_loadVar {P : Program} {w : World} {T : Ty} {t : TypeId} (h : tyOk P T t = true) {a : Addr} {cs : List Value} (hl : cs.length = T.sz) (h1 : T.agg = false → ∃ c, cs = [c]) (hc : ∀ j u, cs[j]? = some u → w.cell? (a.add j) = some u) :
    (loadVar t a).run P w = .ok (packV T cs) w := by
  obtain ⟨i, z, hi, hs, _, _, _, _⟩ := info_of h
  unfold loadVar
  simp only [Sem.run_bind, agg_of h w, Result.andThen_ok]
  cases hg : T.agg with
  | true =>
    have := run_loadCells_list (P := P) w a cs hc
    rw [hl] at this
    simp [Go.sizeOf, typeInfo, hi, hs, this, packV, hg]
  | false =>
    obtain ⟨c, rfl⟩ := h1 hg
    have h0 := hc 0 c rfl
    rw [add0] at h0
    simp [packV, hg, h0]
theorem one_cell {ok : Nat → Prop} {w : World} {T : Ty} {x : T.I} {cs : List Value} (h : VDen ok w T x cs) (hg : T.agg = false) : ∃ c, cs = [c] := by
  have hl := h.length
  cases T with
  | unit => simp [Ty.agg] at hg
  | pair => simp [Ty.agg] at hg
  | _ => exact List.length_eq_one_iff.1 hl
/-- A store. -/
theorem run_storeVar {P : Program} {w : World} {T : Ty} {t : TypeId} (h : tyOk P T t = true) {g o : Nat} {tt : TypeId} {cur : Array Value} {v : Value} {vs : List Value} (hv : v.cells = vs.toArray) (hl : vs.length = T.sz) (h1 : ∀ u ∈ vs, u.oneCell' = true)
    (hg : w.heap[g]? = some (.cells cur tt (0, 0))) (hfit : o + vs.length ≤ cur.size) : (storeVar t ⟨g, o, none⟩ v).run P w = .ok () (w.setRow g (splice cur.toList o vs).toArray) := by
  obtain ⟨i, z, hi, hs, _, _, _, _⟩ := info_of h
  have hst := run_storeCells_at P g o tt vs 0 cur w hg (by simpa using hfit) h1
  simp only [Nat.add_zero] at hst
  unfold storeVar
  simp [Go.sizeOf, typeInfo, hi, hs, hv, hl, hst, splice]
end Pm
end
section
/- Snapshots, new objects, objects that turn. -/
namespace Pm
open Go Go.RowKit

theorem upd_same (H : Hp) (n : Nat) (o : Ob) : upd H n o n = some o := by simp [upd]
theorem upd_ne {H : Hp} {n m : Nat} {o : Ob} (h : m ≠ n) : upd H n o m = H m := by
  have : Nat.beq m n = false := by
    cases hb : Nat.beq m n with
    | false => rfl
    | true => exact absurd (Nat.eq_of_beq_eq_true hb) h
  simp [upd, this]
theorem upd_cases {H : Hp} {n m : Nat} {o p : Ob} (h : upd H n o m = some p) : (m = n ∧ p = o) ∨ (m ≠ n ∧ H m = some p) := by
  by_cases e : m = n
  · subst e; rw [upd_same] at h; injection h with h; exact .inl ⟨rfl, h.symm⟩
  · rw [upd_ne e] at h; exact .inr ⟨e, h⟩

/-- Rows are written no more. -/
def Fz (H H' : Hp) : Prop := ∀ m, H' m = H m ∨ ∃ e xs, H m = some (.arr e xs .lv) ∧ H' m = some (.arr e xs .fr)
theorem Fz.refl (H : Hp) : Fz H H := fun _ => .inl rfl
theorem Fz.trans {H1 H2 H3 : Hp} (h : Fz H1 H2) (k : Fz H2 H3) : Fz H1 H3 := fun m => by
  rcases h m with h | ⟨e, xs, h1, h2⟩
  · rcases k m with k | ⟨e, xs, k1, k2⟩
    · exact .inl (k.trans h)
    · exact .inr ⟨e, xs, by rw [← h]; exact k1, k2⟩
  · rcases k m with k | ⟨e', xs', k1, k2⟩
    · exact .inr ⟨e, xs, h1, by rw [k]; exact h2⟩
    · rw [h2] at k1; cases k1
theorem frz_fz (H : Hp) (d : D) : Fz H (frz H d) := by
  intro m
  cases d with
  | ref n =>
    cases ho : H n with
    | none => left; simp [frz, ho]
    | some o =>
      cases o with
      | arr e xs l =>
        cases l with
        | lv =>
          simp only [frz, ho]
          by_cases hm : m = n
          · subst hm; exact .inr ⟨e, xs, ho, upd_same _ _ _⟩
          · exact .inl (upd_ne hm)
        | _ => left; simp [frz, ho]
      | _ => left; simp [frz, ho]
  | _ => exact .inl rfl
theorem frzs_fz : ∀ (ss : List S) (H : Hp), Fz H (frzs H ss)
  | [], H => Fz.refl H
  | .d d :: ss, H => (frz_fz H d).trans (frzs_fz ss _)
  | .tup _ :: ss, H => frzs_fz ss H
theorem Fz.sim {H H' : Hp} (h : Fz H H') {n : Nat} {o : Ob} (hn : H n = some o) : ∃ o', H' n = some o' ∧ Sim o o' := by
  rcases h n with e | ⟨e, xs, h1, h2⟩
  · exact ⟨o, by rw [e]; exact hn, Sim.refl o⟩
  · rw [h1] at hn; injection hn with hn; subst hn; exact ⟨_, h2, .inr ⟨xs, .fr, rfl, rfl⟩⟩
theorem Fz.back {H H' : Hp} (h : Fz H H') {n : Nat} {o : Ob} (hn : H' n = some o) : ∃ o0, H n = some o0 ∧ Body o0 o ∧ (o.live = true → o0.live = true) ∧ o0.isIo = o.isIo ∧ o0.isDead = o.isDead := by
  rcases h n with e | ⟨e, xs, h1, h2⟩
  · exact ⟨o, by rw [← e]; exact hn, Body.refl o, id, rfl, rfl⟩
  · rw [h2] at hn; injection hn with hn; subst hn
    exact ⟨_, h1, ⟨.fr, rfl⟩, fun h => by simp [Ob.live] at h, rfl, rfl⟩
theorem Fz.ok {X : Ctx} {φ : Nat → Value} {H H' : Hp} {N b : Nat} (h : Fz H H') (ho : okB X φ H N b) : okB X φ H' N b :=
  ⟨ho.1, ho.2.1, fun n o hn hl => let ⟨o0, h0, _, h1, _, _⟩ := h.back hn; ho.2.2 n o0 h0 (h1 hl)⟩
theorem Fz.map {φ : Nat → Value} {H H' : Hp} (h : Fz H H') : ∀ n o, H n = some o → φ n = φ n ∧ ∃ o', H' n = some o' ∧ Sim o o' := fun _ _ hn => ⟨rfl, h.sim hn⟩
theorem Rel.fz {X : Ctx} {φ : Nat → Value} {tm : List S} {H H' : Hp} {a : Act} {w : World} (R : Rel X φ tm H a w) (h : Fz H H') : Rel X φ tm H' a w :=
  R.step (Nat.le_refl _) h.map (fun _ _ => rfl) (fun _ => h.ok) (fun n o hn => let ⟨o0, h0, h1, _⟩ := h.back hn; .inl ⟨o0, h0, h1, fun _ _ _ => rfl⟩)
    (fun n o b hn hd hb => by
      obtain ⟨o0, h0, _, _, h3, h4⟩ := h.back hn
      have := R.mine n o0 b h0 (by rw [h4]; exact hd) hb
      rwa [h3] at this)
    (fun n m o o' b hne hn hm hl hd hb => by
      obtain ⟨o0, h0, _, h2, _, _⟩ := h.back hn
      obtain ⟨o1, h1, _, _, _, h5⟩ := h.back hm
      exact R.apart n m o0 o1 b hne h0 h1 (h2 hl) (by rw [h5]; exact hd) hb)
    (fun n o hn ho => by
      obtain ⟨o0, h0, _, _, h3, _⟩ := h.back hn
      exact R.iov n o0 h0 (by rw [h3]; exact ho))
theorem snap_fz {H H' : Hp} (h : Fz H H') {t : Ty} {d : D} {x : t.I} (hs : snap H t d = some x) : snap H' t d = some x := by
  cases d with
  | ref n =>
    rcases h n with e | ⟨e, xs, h1, h2⟩
    · simp only [snap] at hs ⊢; rw [e]; exact hs
    · simp only [snap] at hs ⊢; rw [h1] at hs; rw [h2]; exact hs
  | _ => exact hs

/-- A row of the call's own, read as data. -/
theorem row_den {X : Ctx} {φ : Nat → Value} {tm : List S} {H : Hp} {a : Act} {w : World} (R : Rel X φ tm H a w) {n : Nat} {e : Ty} {xs : List e.I} (hn : H n = some (.arr e xs .fr)) :
    ∃ A c, φ n = .slice A xs.length c ∧ (xs.length ≤ c ∧ (A = none → c = 0)) ∧ RowsD (okB X φ H w.heap.size) w e A xs := by
  obtain ⟨T, cs, hr, he⟩ := R.obs n _ hn
  rcases hr.2 with ⟨h1, h2⟩ | ⟨g, cap, cur, hv, _, hg, hc, _, _, ht⟩
  · refine ⟨none, 0, by rw [h1, h2], ⟨by omega, fun _ => rfl⟩, fun i hi => by omega⟩
  · refine ⟨some ⟨g, 0, none⟩, cap, hv, ⟨hc, fun h => by cases h⟩, fun i hi => ?_⟩
    refine ⟨⟨g, 0, none⟩, (cs.drop (i * e.sz)).take e.sz, rfl, he i hi, fun j v hj => ?_, ?_⟩
    · apply hr.cells (g := g) (by rw [hv]; rfl)
      rw [List.getElem?_take] at hj
      split at hj
      · rw [List.getElem?_drop] at hj; exact hj
      · cases hj
    · have hb : blk (φ n) = some g := by rw [hv]; rfl
      refine ⟨.inr ?_, (Array.getElem?_eq_some_iff.1 hg).1, fun m o hm hl hbm => ?_⟩
      · have := R.mine n _ g hn rfl hb; simpa [Ob.isIo] using this
      · have hne : m ≠ n := by rintro rfl; rw [hn] at hm; injection hm with hm; subst hm; simp [Ob.live] at hl
        exact R.apart m n o _ g hne hm hn hl rfl hbm hb
theorem snap_den {X : Ctx} {φ : Nat → Value} {tm : List S} {H : Hp} {a : Act} {w : World} (R : Rel X φ tm H a w) {t : Ty} {d : D} {x : t.I} {v : Value} (hd : DDen X.ρ (okB X φ H w.heap.size) φ H w d v) (hs : snap H t d = some x) : VV (okB X φ (frz H d) w.heap.size) w t x v := by
  have R' := R.fz (frz_fz H d)
  cases d with
  | val t' y =>
    obtain ⟨e, h⟩ := castT_some hs
    subst e; subst h
    exact hd
  | nil =>
    cases t <;> simp [snap] at hs
    subst hs
    exact ⟨[.slice none 0 0], ⟨none, 0, rfl, ⟨Nat.le_refl _, fun _ => rfl⟩, fun i hi => by cases hi⟩, hd⟩
  | fsl e xs =>
    obtain ⟨e', h⟩ := castT_some hs
    subst e'; subst h
    obtain ⟨A, h1, h2⟩ := hd
    exact ⟨[v], ⟨A, _, by rw [h1], ⟨Nat.le_refl _, rows_nil h2⟩, h2⟩, rfl⟩
  | nn e xs =>
    obtain ⟨e', h⟩ := castT_some hs
    subst e'; subst h
    obtain ⟨A, c, h1, hl, h2⟩ := hd
    exact ⟨[v], ⟨some A, c, by rw [h1], ⟨hl, fun h => by cases h⟩, h2⟩, rfl⟩
  | ref n =>
    have key : ∀ (e : Ty) (xs : List e.I), frz H (.ref n) n = some (.arr e xs .fr) → castT (.sl e) t xs = some x → VV (okB X φ (frz H (.ref n)) w.heap.size) w t x v := by
      intro e xs hf hc
      obtain ⟨e', h⟩ := castT_some hc
      subst e'; subst h
      obtain ⟨A, c, h1, h2, h3⟩ := row_den R' hf
      exact ⟨[v], ⟨A, c, by rw [hd.1, h1], h2, h3⟩, rfl⟩
    simp only [snap] at hs
    cases ho : H n with
    | none => rw [ho] at hs; cases hs
    | some o =>
      rw [ho] at hs
      cases o with
      | arr e xs l =>
        cases l with
        | fr => exact key e xs (by simp [frz, ho]) hs
        | lv => exact key e xs (by simp [frz, ho, upd_same]) hs
        | io => cases hs
      | box => cases hs
      | dead => cases hs
  | _ => simp [snap] at hs
theorem VV.fz {X : Ctx} {φ : Nat → Value} {H H' : Hp} {w : World} {t : Ty} {x : t.I} {v : Value} (h : VV (okB X φ H w.heap.size) w t x v) (hf : Fz H H') : VV (okB X φ H' w.heap.size) w t x v :=
  VV.mono (fun _ => hf.ok) (fun _ _ => rfl) h
theorem DDen.fz {X : Ctx} {φ : Nat → Value} {H H' : Hp} {w : World} {d : D} {v : Value} (h : DDen X.ρ (okB X φ H w.heap.size) φ H w d v) (hf : Fz H H') : DDen X.ρ (okB X φ H' w.heap.size) φ H' w d v :=
  DDen.mono (fun _ => hf.ok) (fun _ _ => rfl) hf.map h
theorem SDen.fz {X : Ctx} {φ : Nat → Value} {H H' : Hp} {w : World} {d : S} {v : Value} (h : SDen X.ρ (okB X φ H w.heap.size) φ H w d v) (hf : Fz H H') : SDen X.ρ (okB X φ H' w.heap.size) φ H' w d v :=
  SDen.mono (fun _ => hf.ok) (fun _ _ => rfl) hf.map h
theorem snaps_fz {H H' : Hp} (h : Fz H H') : ∀ {ts : List Ty} {ss : List S} {xs : List TV}, snaps H ts ss = some xs → snaps H' ts ss = some xs
  | [], [], _, hs => hs
  | t :: ts, .d d :: ss, xs, hs => by
    simp only [snaps] at hs ⊢
    split at hs
    · rename_i y ys k1 k2
      rw [snap_fz h k1, snaps_fz h k2]
      exact hs
    · cases hs
  | [], _ :: _, _, hs => by simp [snaps] at hs
  | _ :: _, [], _, hs => by simp [snaps] at hs
  | _ :: _, .tup _ :: _, _, hs => by simp [snaps] at hs
theorem snaps_den {X : Ctx} {φ : Nat → Value} {tm : List S} {a : Act} {w : World} : ∀ {ts : List Ty} {ss : List S} {vs : List Value} {xs : List TV} {H : Hp} (_ : Rel X φ tm H a w), All2 (SDen X.ρ (okB X φ H w.heap.size) φ H w) ss vs → snaps H ts ss = some xs →
    All2 (fun (y : TV) v => VV (okB X φ (frzs H ss) w.heap.size) w y.t y.x v) xs vs
  | [], [], [], xs, H, R, _, hs => by simp [snaps] at hs; subst hs; trivial
  | t :: ts, .d d :: ss, v :: vs, xs, H, R, ⟨hd, ht⟩, hs => by
    simp only [snaps] at hs
    split at hs
    · rename_i x xs' h1 h2
      injection hs with hs; subst hs
      refine ⟨(snap_den R hd h1).fz (frzs_fz ss _), ?_⟩
      exact snaps_den (H := frz H d) (R.fz (frz_fz H d)) (ht.imp fun _ _ h => h.fz (frz_fz H d)) (snaps_fz (frz_fz H d) h2)
    · cases hs
  | [], _ :: _, _, _, _, _, _, hs => by simp [snaps] at hs
  | _ :: _, [], _, _, _, _, _, hs => by simp [snaps] at hs
  | _ :: _, .tup _ :: _, _, _, _, _, _, hs => by simp [snaps] at hs

def setφ (φ : Nat → Value) (n : Nat) (v : Value) : Nat → Value := fun m => if m = n then v else φ m
theorem setφ_same (φ : Nat → Value) (n : Nat) (v : Value) : setφ φ n v n = v := by simp [setφ]
theorem setφ_ne {φ : Nat → Value} {n m : Nat} {v : Value} (h : m ≠ n) : setφ φ n v m = φ m := by simp [setφ, h]
theorem lt_of_okB {X : Ctx} {φ : Nat → Value} {H : Hp} {N b : Nat} (h : okB X φ H N b) : b < N := h.2.1
theorem blk_lt {X : Ctx} {φ : Nat → Value} {tm : List S} {H : Hp} {a : Act} {w : World} (R : Rel X φ tm H a w) {n : Nat} {o : Ob} {b : Nat} (hn : H n = some o) (hd : o.isDead = false) (hb : blk (φ n) = some b) : b < w.heap.size := by
  have := R.obs n o hn
  cases o with
  | arr e xs l =>
    obtain ⟨T, cs, hr, _⟩ := this
    rcases hr.2 with ⟨h1, _⟩ | ⟨g, cap, cur, hv, _, hg, _⟩
    · rw [h1] at hb; cases hb
    · rw [hv] at hb; injection hb with hb; subst hb; exact (Array.getElem?_eq_some_iff.1 hg).1
  | box t d =>
    obtain ⟨_, g, T, cs, v, h1, h2, _⟩ := this
    rw [h1] at hb; injection hb with hb; subst hb; exact (Array.getElem?_eq_some_iff.1 h2).1
  | dead => simp [Ob.isDead] at hd

/-- The world has grown, and nothing of the call's own has turned. -/
theorem Rel.grow {X : Ctx} {φ : Nat → Value} {tm : List S} {H : Hp} {a : Act} {w w' : World} (R : Rel X φ tm H a w) (hg : w.grownBy w' none) : Rel X φ tm H a w' := by
  have hblk : ∀ b, b < w.heap.size → w'.heap[b]? = w.heap[b]? := fun b hb => hg.block b hb (by simp)
  exact R.step hg.size (fun n o' hn => ⟨rfl, o', hn, Sim.refl _⟩) (fun b h => hblk b h.2.1) (fun b h => ⟨h.1, Nat.lt_of_lt_of_le h.2.1 hg.size, h.2.2⟩)
    (fun n o' hn => .inl ⟨o', hn, Body.refl _, fun hd b hb => hblk b (blk_lt R hn hd hb)⟩) R.mine R.apart R.iov
theorem new_ok {X : Ctx} {φ : Nat → Value} {H : Hp} {w w' : World} {nm : Nat} {o : Ob} {pv : Value} (hg : w.heap.size ≤ w'.heap.size) (hb : ∀ b, blk pv = some b → w.heap.size ≤ b) {b : Nat} (h : okB X φ H w.heap.size b) : okB X (setφ φ nm pv) (upd H nm o) w'.heap.size b := by
  refine ⟨h.1, Nat.lt_of_lt_of_le h.2.1 hg, fun n o' hn hl he => ?_⟩
  rcases upd_cases hn with ⟨rfl, rfl⟩ | ⟨hne, hn⟩
  · rw [setφ_same] at he; have := hb b he; have := h.2.1; omega
  · rw [setφ_ne hne] at he; exact h.2.2 n o' hn hl he
theorem new_map {φ : Nat → Value} {H : Hp} {nm : Nat} {o : Ob} {pv : Value} (hnm : H nm = none) : ∀ n o', H n = some o' → setφ φ nm pv n = φ n ∧ ∃ o'', upd H nm o n = some o'' ∧ Sim o' o'' := fun n o' hn => by
  have hne : n ≠ nm := by rintro rfl; rw [hnm] at hn; cases hn
  exact ⟨setφ_ne hne, o', by rw [upd_ne hne]; exact hn, Sim.refl _⟩
/-- Something new: a block of its own, or none. -/
theorem Rel.new {X : Ctx} {φ : Nat → Value} {tm : List S} {H : Hp} {a : Act} {w w' : World} (R : Rel X φ tm H a w) {nm : Nat} (hnm : H nm = none) {o : Ob} {pv : Value} (hg : w.grownBy w' none)
    (hb : ∀ b, blk pv = some b → w.heap.size ≤ b) (hio : o.isIo = false) (ho : ObDen X.ρ (okB X (setφ φ nm pv) (upd H nm o) w'.heap.size) (setφ φ nm pv) (upd H nm o) w' nm o) :
    Rel X (setφ φ nm pv) tm (upd H nm o) a w' := by
  have hblk : ∀ b, b < w.heap.size → w'.heap[b]? = w.heap[b]? := fun b hb => hg.block b hb (by simp)
  refine R.step hg.size (new_map hnm) (fun b h => hblk b h.2.1) (fun b h => new_ok hg.size hb h) (fun n o' hn => ?_) (fun n o' b hn hd hb' => ?_) (fun n m o1 o2 b hne hn hm hl hd hb1 => ?_) (fun n o' hn h => by
      rcases upd_cases hn with ⟨rfl, rfl⟩ | ⟨hne, hn⟩
      · rw [hio] at h; cases h
      · rw [setφ_ne hne]; exact R.iov n o' hn h)
  · rcases upd_cases hn with ⟨rfl, rfl⟩ | ⟨hne, hn⟩
    · exact .inr ho
    · exact .inl ⟨o', hn, Body.refl _, fun hd b hb => hblk b (blk_lt R hn hd hb)⟩
  · rcases upd_cases hn with ⟨rfl, rfl⟩ | ⟨hne, hn⟩
    · rw [setφ_same] at hb'; rw [hio]; have := hb b hb'; have := R.bnd; simp; omega
    · rw [setφ_ne hne] at hb'; exact R.mine n o' b hn hd hb'
  · rcases upd_cases hn with ⟨rfl, rfl⟩ | ⟨hn1, hn2⟩
    · rcases upd_cases hm with ⟨rfl, _⟩ | ⟨hm1, hm2⟩
      · exact absurd rfl hne
      · rw [setφ_same] at hb1; rw [setφ_ne hm1]
        intro h; have := blk_lt R hm2 hd h; have := hb b hb1; omega
    · rcases upd_cases hm with ⟨rfl, rfl⟩ | ⟨hm1, hm2⟩
      · rw [setφ_ne hn1] at hb1; rw [setφ_same]
        intro h
        have hd1 : o1.isDead = false := by cases o1 <;> simp_all [Ob.live, Ob.isDead]
        have := blk_lt R hn2 hd1 hb1; have := hb b h; omega
      · rw [setφ_ne hn1] at hb1; rw [setφ_ne hm1]
        exact R.apart n m o1 o2 b hne hn2 hm2 hl hd hb1
/-- An object that the call may write turns: its block alone. -/
theorem Rel.turn {X : Ctx} {φ : Nat → Value} {tm : List S} {H : Hp} {a : Act} {w w' : World} (R : Rel X φ tm H a w) {n : Nat} {o o' : Ob} (hn : H n = some o) (hl : o.live = true) (hs : Sim o o') (hl' : o'.live = true) (hio : o'.isIo = o.isIo)
    (hsz : w.heap.size ≤ w'.heap.size) (hw : ∀ b, b < w.heap.size → blk (φ n) ≠ some b → w'.heap[b]? = w.heap[b]?)
    (ho : (∀ b, okB X φ H w.heap.size b → okB X φ (upd H n o') w'.heap.size b) → ObDen X.ρ (okB X φ (upd H n o') w'.heap.size) φ (upd H n o') w' n o') : Rel X φ tm (upd H n o') a w' := by
  have hd : o.isDead = false := by cases o <;> simp_all [Ob.live, Ob.isDead]
  have hok : ∀ b, okB X φ H w.heap.size b → okB X φ (upd H n o') w'.heap.size b := fun b h => by
    refine ⟨h.1, Nat.lt_of_lt_of_le h.2.1 hsz, fun m p hm hp => ?_⟩
    rcases upd_cases hm with ⟨rfl, rfl⟩ | ⟨_, hm⟩
    · exact h.2.2 _ o hn hl
    · exact h.2.2 m p hm hp
  refine R.step hsz (fun m p hm => ⟨rfl, ?_⟩) (fun b h => hw b h.2.1 (h.2.2 n o hn hl)) hok (fun m p hm => ?_) (fun m p b hm hd' hb => ?_) (fun m m' p p' b hne hm hm' hp hp' hb => ?_) (fun m p hm h => by
      rcases upd_cases hm with ⟨rfl, rfl⟩ | ⟨_, hm⟩
      · exact R.iov _ o hn (by rw [← hio]; exact h)
      · exact R.iov m p hm h)
  · by_cases e : m = n
    · subst e; rw [hn] at hm; injection hm with hm; subst hm; exact ⟨o', upd_same _ _ _, hs⟩
    · exact ⟨p, by rw [upd_ne e]; exact hm, Sim.refl _⟩
  · rcases upd_cases hm with ⟨rfl, rfl⟩ | ⟨hne, hm⟩
    · exact .inr (ho hok)
    · refine .inl ⟨p, hm, Body.refl _, fun hd' b hb => hw b (blk_lt R hm hd' hb) fun hb2 => ?_⟩
      exact R.apart n m o p b (fun e => hne e.symm) hn hm hl hd' hb2 hb
  · rcases upd_cases hm with ⟨rfl, rfl⟩ | ⟨_, hm⟩
    · rw [hio]; exact R.mine _ o b hn hd hb
    · exact R.mine m p b hm hd' hb
  · rcases upd_cases hm with ⟨rfl, rfl⟩ | ⟨h1, h2⟩
    · rcases upd_cases hm' with ⟨rfl, _⟩ | ⟨h3, h4⟩
      · exact absurd rfl hne
      · exact R.apart _ _ o p' b hne hn h4 hl hp' hb
    · rcases upd_cases hm' with ⟨rfl, rfl⟩ | ⟨h3, h4⟩
      · exact R.apart _ _ p o b hne h2 hn hp hd hb
      · exact R.apart _ _ p p' b hne h2 h4 hp hp' hb
/-- A row of its own goes into a new one: in its block, or in a new block. -/
theorem Rel.go {X : Ctx} {φ : Nat → Value} {tm : List S} {H : Hp} {a : Act} {w w' : World} (R : Rel X φ tm H a w) {n nm : Nat} {e : Ty} {xs : List e.I} (hn : H n = some (.arr e xs .lv)) (hnm : H nm = none) {o : Ob} {pv : Value} (hg : w.grownBy w' (blk (φ n)))
    (hb : ∀ b, blk pv = some b → blk (φ n) = some b ∨ w.heap.size ≤ b) (hio : o.isIo = false)
    (ho : (∀ b, okB X φ H w.heap.size b → okB X (setφ φ nm pv) (upd (upd H n .dead) nm o) w'.heap.size b) → ObDen X.ρ (okB X (setφ φ nm pv) (upd (upd H n .dead) nm o) w'.heap.size) (setφ φ nm pv) (upd (upd H n .dead) nm o) w' nm o) :
    Rel X (setφ φ nm pv) tm (upd (upd H n .dead) nm o) a w' := by
  have hne : n ≠ nm := by rintro rfl; rw [hnm] at hn; cases hn
  have hmine : ∀ b, blk (φ n) = some b → X.base ≤ b := fun b h => by have := R.mine n _ b hn rfl h; simpa [Ob.isIo] using this
  have hok : ∀ b, okB X φ H w.heap.size b → okB X (setφ φ nm pv) (upd (upd H n .dead) nm o) w'.heap.size b := fun b h => by
    refine ⟨h.1, Nat.lt_of_lt_of_le h.2.1 hg.size, fun m p hm hp hbm => ?_⟩
    rcases upd_cases hm with ⟨rfl, rfl⟩ | ⟨h1, hm⟩
    · rw [setφ_same] at hbm
      rcases hb b hbm with h2 | h2
      · exact h.2.2 n _ hn rfl h2
      · have := h.2.1; omega
    · rw [setφ_ne h1] at hbm
      rcases upd_cases hm with ⟨rfl, rfl⟩ | ⟨_, hm⟩
      · simp [Ob.live] at hp
      · exact h.2.2 m p hm hp hbm
  refine R.step hg.size (fun m p hm => ?_) (fun b h => hg.block b h.2.1 (fun e => h.2.2 n _ hn rfl e.symm)) hok (fun m p hm => ?_) (fun m p b hm hd' hb' => ?_) (fun m m' p p' b hne' hm hm' hp hp' hb' => ?_) (fun m p hm h => by
      rcases upd_cases hm with ⟨rfl, rfl⟩ | ⟨h1, hm⟩
      · rw [hio] at h; cases h
      · rcases upd_cases hm with ⟨rfl, rfl⟩ | ⟨h2, hm⟩
        · cases h
        · rw [setφ_ne h1]; exact R.iov m p hm h)
  · have h1 : m ≠ nm := by rintro rfl; rw [hnm] at hm; cases hm
    refine ⟨setφ_ne h1, ?_⟩
    by_cases e' : m = n
    · subst e'; rw [hn] at hm; injection hm with hm; subst hm; exact ⟨.dead, by rw [upd_ne h1, upd_same], .inl rfl⟩
    · exact ⟨p, by rw [upd_ne h1, upd_ne e']; exact hm, Sim.refl _⟩
  · rcases upd_cases hm with ⟨rfl, rfl⟩ | ⟨h1, hm⟩
    · exact .inr (ho hok)
    · rcases upd_cases hm with ⟨rfl, rfl⟩ | ⟨h2, hm⟩
      · exact .inr trivial
      · refine .inl ⟨p, hm, Body.refl _, fun hd' b hb' => hg.block b (blk_lt R hm hd' hb') fun e' => ?_⟩
        exact R.apart n m _ p b (fun e => h2 e.symm) hn hm rfl hd' e'.symm hb'
  · rcases upd_cases hm with ⟨rfl, rfl⟩ | ⟨h1, hm⟩
    · rw [setφ_same] at hb'; rw [hio]
      rcases hb b hb' with h | h
      · simpa using hmine b h
      · have := R.bnd; simp; omega
    · rw [setφ_ne h1] at hb'
      rcases upd_cases hm with ⟨rfl, rfl⟩ | ⟨h2, hm⟩
      · simp [Ob.isDead] at hd'
      · exact R.mine m p b hm hd' hb'
  · rcases upd_cases hm with ⟨rfl, rfl⟩ | ⟨h1, h2⟩
    · rcases upd_cases hm' with ⟨rfl, _⟩ | ⟨h3, h4⟩
      · exact absurd rfl hne'
      · rcases upd_cases h4 with ⟨rfl, rfl⟩ | ⟨h5, h6⟩
        · simp [Ob.isDead] at hp'
        · rw [setφ_same] at hb'; rw [setφ_ne h3]
          intro hb2
          rcases hb b hb' with h | h
          · exact R.apart n m' _ p' b (fun e => h5 e.symm) hn h6 rfl hp' h hb2
          · have := blk_lt R h6 hp' hb2; omega
    · rcases upd_cases h2 with ⟨rfl, rfl⟩ | ⟨h5, h6⟩
      · simp [Ob.live] at hp
      · rw [setφ_ne h1] at hb'
        have hd1 : p.isDead = false := by cases p <;> simp_all [Ob.live, Ob.isDead]
        rcases upd_cases hm' with ⟨rfl, rfl⟩ | ⟨h3, h4⟩
        · rw [setφ_same]
          intro hb2
          rcases hb b hb2 with h | h
          · exact R.apart m n p _ b h5 h6 hn hp rfl hb' h
          · have := blk_lt R h6 hd1 hb'; omega
        · rcases upd_cases h4 with ⟨rfl, rfl⟩ | ⟨h7, h8⟩
          · simp [Ob.isDead] at hp'
          · rw [setφ_ne h3]
            exact R.apart m m' p p' b hne' h6 h8 hp hp' hb'
end Pm
end
section
/- Loads, stores, addresses: the machine does what the plain reading says. -/
namespace Pm
open Go Go.RowKit

section
variable {P : Program} {X : Ctx} {φ : Nat → Value} {tm : List S} {H : Hp} {a : Act} {w : World}

theorem ldI_den (R : Rel X φ tm H a w) {T : Ty} {t : TypeId} (ht : tyOk P T t = true) {d d' : D} {v : Value} (hd : DDen X.ρ (okB X φ H w.heap.size) φ H w d v) (h : ldI H T d = some d') :
    ∃ v', (Instr.loadAt t v).run P w = .ok v' w ∧ DDen X.ρ (okB X φ H w.heap.size) φ H w d' v' := by
  cases d with
  | iptr t' x =>
    obtain ⟨y, hy, rfl⟩ := Option.map_eq_some_iff.1 h
    obtain ⟨e, hx⟩ := castT_some hy
    subst e; subst hx
    obtain ⟨ad, cs, rfl, hv, hc, ho⟩ := hd
    refine ⟨packV _ cs, ?_, cs, hv, rfl⟩
    simp [Instr.loadAt, Instr.sureAddr, run_loadVar ht hv.length (fun hg => one_cell hv hg) hc]
  | ptr n i p =>
    obtain ⟨o, ho, hp⟩ := hd
    simp only [ldI, ldAt, ho] at h
    cases o with
    | dead => cases h
    | arr e xs l =>
      obtain ⟨hi, hs, b, hb, rfl⟩ := hp
      simp only at h
      split at h
      · rename_i u hu
        obtain ⟨y, hy, rfl⟩ := Option.map_eq_some_iff.1 h
        obtain ⟨e', hx⟩ := castT_some hy
        obtain ⟨ut, ux⟩ := u
        simp only at e' hx
        subst e'; subst hx
        obtain ⟨Tt, cs, hr, he⟩ := R.obs n _ ho
        rw [show xs.getD i e.z = xs[i] from by simp [List.getD_eq_getElem?_getD, hi]] at hu
        obtain ⟨k1, k2⟩ := getP_den p e xs[i] _ (he i hi) _ hu
        simp only at k1 k2
        rcases hr.2 with ⟨h1, h2⟩ | ⟨g, cap, cur, hv, _, hg, hc, _, _, htk⟩
        · rw [h1] at hb; cases hb
        · rw [hv] at hb; injection hb with hb; subst hb
          refine ⟨packV ut _, ?_, _, k2, rfl⟩
          have hcells : ∀ j u, ((((cs.drop (i * e.sz)).take e.sz).drop (e.off p)).take ut.sz)[j]? = some u → w.cell? ((⟨g, i * e.sz + e.off p, none⟩ : Addr).add j) = some u := by
            intro j u hj
            have := hr.cells (g := g) (by rw [hv]; rfl) (i * e.sz + e.off p + j) u (by
              rw [List.getElem?_take] at hj
              split at hj
              · rw [List.getElem?_drop, List.getElem?_take] at hj
                split at hj
                · rw [List.getElem?_drop] at hj; rw [← hj]; congr 1; omega
                · cases hj
              · cases hj)
            rw [add_lit] at this ⊢
            simpa [Nat.zero_add, Nat.add_assoc] using this
          simp [Instr.loadAt, Instr.sureAddr, run_loadVar ht k2.length (fun hg => one_cell k2 hg) hcells]
      · cases h
    | box bt d =>
      obtain ⟨hs, b, hb, rfl⟩ := hp
      obtain ⟨hct, g, Tt, cs, v0, hv, hg, hdd, hvc, hl⟩ := R.obs n _ ho
      rw [hv] at hb; injection hb with hb; subst hb
      have hcell : ∀ j u, cs[j]? = some u → w.cell? ⟨g, j, none⟩ = some u := fun j u hj => by
        rw [cell_of_row w g j _ Tt (0, 0) hg]; simpa using hj
      cases p with
      | nil =>
        simp only at h
        cases hbe : Ty.beq bt T with
        | false => rw [hbe] at h; cases h
        | true =>
          rw [hbe] at h
          obtain rfl := Ty.beq_eq _ _ hbe
          injection h with h; subst h
          refine ⟨v0, ?_, hdd⟩
          have key : packV bt cs = v0 ∧ (bt.agg = false → ∃ c, cs = [c]) := by
            have single : v0.oneCell' = true → bt.agg = false → packV bt cs = v0 ∧ (bt.agg = false → ∃ c, cs = [c]) := fun h1 h2 => by
              rw [cells_one h1] at hvc
              have : cs = [v0] := by
                have := congrArg Array.toList hvc
                simpa using this.symm
              subst this
              exact ⟨by simp [packV, h2], fun _ => ⟨_, rfl⟩⟩
            cases d with
            | val t' y =>
              obtain ⟨y', hy', he⟩ := Option.map_eq_some_iff.1 hct
              injection he with he1 he2
              subst he1
              obtain ⟨cs0, h1, h2⟩ := hdd
              have h3 := packV_cells h1
              rw [← h2, hvc] at h3
              have : cs = cs0 := by simpa using congrArg Array.toList h3
              subst this
              exact ⟨h2.symm, fun hg => one_cell h1 hg⟩
            | nil =>
              cases bt <;> simp [cont] at hct
              exact single (by rw [show v0 = _ from hdd]; rfl) rfl
            | ref m =>
              cases bt <;> simp [cont] at hct
              exact single hdd.2.1 rfl
            | _ => simp [cont] at hct
          have := run_loadVar (P := P) (w := w) ht hl key.2 (a := ⟨g, bt.off [], none⟩) (fun j u hj => by rw [off_nil, add_lit, Nat.zero_add]; exact hcell j u hj)
          simp [Instr.loadAt, Instr.sureAddr, this, key.1]
      | cons q p =>
        simp only at h
        cases d with
        | val t' y =>
          simp only at h
          obtain ⟨y', hy', he⟩ := Option.map_eq_some_iff.1 hct
          injection he with he1 he2
          subst he1
          split at h
          · rename_i u hu
            obtain ⟨z, hz, rfl⟩ := Option.map_eq_some_iff.1 h
            obtain ⟨e', hx⟩ := castT_some hz
            obtain ⟨ut, ux⟩ := u
            simp only at e' hx
            subst e'; subst hx
            obtain ⟨cs0, h1, h2⟩ := hdd
            have h3 := packV_cells h1
            rw [← h2, hvc] at h3
            have : cs = cs0 := by simpa using congrArg Array.toList h3
            subst this
            obtain ⟨k1, k2⟩ := getP_den _ _ _ _ h1 _ hu
            simp only at k1 k2
            refine ⟨packV ut _, ?_, _, k2, rfl⟩
            have := run_loadVar (P := P) (w := w) ht k2.length (fun hg => one_cell k2 hg) (a := ⟨g, bt.off (q :: p), none⟩) (fun j u hj => by
              rw [add_lit]
              apply hcell
              rw [List.getElem?_take] at hj
              split at hj
              · rw [List.getElem?_drop] at hj; exact hj
              · cases hj)
            simp [Instr.loadAt, Instr.sureAddr, this]
          · cases h
        | _ => simp at h
  | _ => simp [ldI] at h

theorem live_of {e : Ty} {xs : List e.I} {l : Lv} (h : l = .fr → False) : (Ob.arr e xs l).live = true := by cases l <;> first | rfl | exact (h rfl).elim
theorem splice_get {α : Type} {cs vs : List α} {o : Nat} (h : o + vs.length ≤ cs.length) (j : Nat) : (splice cs o vs)[j]? = if j < o then cs[j]? else if j < o + vs.length then vs[j - o]? else cs[j]? := by
  unfold splice
  have hl : (cs.take o).length = o := by simp; omega
  by_cases h1 : j < o
  · rw [if_pos h1, List.append_assoc, List.getElem?_append_left (by omega), List.getElem?_take, if_pos h1]
  · rw [if_neg h1]
    by_cases h2 : j < o + vs.length
    · rw [if_pos h2, List.append_assoc, List.getElem?_append_right (by omega), List.getElem?_append_left (by omega), hl]
    · rw [if_neg h2, List.getElem?_append_right (by simp; omega), List.getElem?_drop]
      congr 1
      simp only [List.length_append, hl]
      omega
theorem splice_take {α : Type} {cs vs : List α} {o k : Nat} (h : o + vs.length ≤ k) (hk : k ≤ cs.length) : (splice cs o vs).take k = splice (cs.take k) o vs := by
  apply List.ext_getElem?
  intro j
  rw [List.getElem?_take, splice_get (by omega), splice_get (by simp; omega)]
  simp only [List.getElem?_take]
  repeat' split
  all_goals first | rfl | omega | (exfalso; omega) | (symm; apply List.getElem?_eq_none; omega)
theorem block_at {α : Type} {cs vs : List α} {s i j q : Nat} (hq : q + vs.length ≤ s) (hi : (i + 1) * s ≤ cs.length) :
    ((splice cs (i * s + q) vs).drop (j * s)).take s = if j = i then splice ((cs.drop (i * s)).take s) q vs else (cs.drop (j * s)).take s := by
  have e1 : (i + 1) * s = i * s + s := by rw [Nat.add_mul, Nat.one_mul]
  apply List.ext_getElem?
  intro k
  rw [List.getElem?_take, List.getElem?_drop, splice_get (by omega)]
  by_cases hji : j = i
  · subst hji
    rw [if_pos rfl]
    by_cases hk : k < s
    · rw [if_pos hk, splice_get (by simp; omega)]
      simp only [List.getElem?_take, List.getElem?_drop, if_pos hk]
      by_cases a1 : k < q
      · rw [if_pos (by omega), if_pos a1]
      · rw [if_neg (by omega), if_neg a1]
        by_cases a2 : k < q + vs.length
        · rw [if_pos (by omega), if_pos a2]; congr 1; omega
        · rw [if_neg (by omega), if_neg a2]
    · rw [if_neg hk]
      symm; apply List.getElem?_eq_none
      rw [splice_length (by simp; omega)]
      simp; omega
  · rw [if_neg hji, List.getElem?_take, List.getElem?_drop]
    by_cases hk : k < s
    · rw [if_pos hk, if_pos hk]
      rcases Nat.lt_or_ge j i with h | h
      · have : (j + 1) * s ≤ i * s := Nat.mul_le_mul_right _ h
        rw [Nat.add_mul, Nat.one_mul] at this
        rw [if_pos (by omega)]
      · have : (i + 1) * s ≤ j * s := Nat.mul_le_mul_right _ (by omega)
        rw [if_neg (by omega), if_neg (by omega)]
    · rw [if_neg hk, if_neg hk]

theorem stAt_den (R : Rel X φ tm H a w) {T : Ty} {t : TypeId} (ht : tyOk P T t = true) {n i : Nat} {p : List Bool} {d : D} {va vd : Value} {H' : Hp}
    (ha : DDen X.ρ (okB X φ H w.heap.size) φ H w (.ptr n i p) va) (hd : DDen X.ρ (okB X φ H w.heap.size) φ H w d vd) (h : stAt H T n i p d = some H') :
    ∃ w', (Instr.storeAt t va vd).run P w = .ok () w' ∧ Rel X φ tm H' a w' ∧ Fr X w w' := by
  obtain ⟨o, ho, hp⟩ := ha
  unfold stAt at h
  rw [ho] at h
  have hfr : ∀ {w' : World} {g : Nat} {o' : Ob} {H1 : Hp}, Rel X φ tm H1 a w → H1 n = some o' → o'.isDead = false → blk (φ n) = some g → w'.heap.size = w.heap.size → w'.os = w.os → w'.tape = w.tape → w'.output = w.output → (∀ k, k ≠ g → w'.heap[k]? = w.heap[k]?) → Fr X w w' := by
    intro w' g o' H1 R1 h1 h2 h3 h4 h5 h6 h7 h8
    refine ⟨h5, h6, h7, by omega, fun k hk hw => h8 k ?_⟩
    rintro rfl
    have := R1.mine n o' k h1 h2 h3
    split at this
    · exact hw this
    · omega
  cases o with
  | dead => cases h
  | arr e0 xs0 l0 =>
    simp only at h
    have R1 := R.fz (frz_fz H d)
    split at h
    · cases h
    · rename_i e xs l y hne hf hs
      obtain ⟨x', hx', rfl⟩ := Option.map_eq_some_iff.1 h
      obtain ⟨o1, ho1, hb1, _⟩ := (frz_fz H d).back hf
      rw [ho] at ho1; injection ho1 with ho1; subst ho1
      obtain ⟨l', hl'⟩ := hb1
      injection hl' with he0 hx0 hl0
      subst he0
      obtain rfl := eq_of_heq hx0
      obtain ⟨hi, hsub, b, hb, rfl⟩ := hp
      obtain ⟨cs, hv, hvd⟩ := snap_den R hd hs
      have hvc : vd.cells = cs.toArray := by rw [hvd]; exact packV_cells hv
      obtain ⟨Tt, cs0, hr, he⟩ := R1.obs n _ hf
      rw [show xs.getD i e.z = xs[i] from by simp [List.getD_eq_getElem?_getD, hi]] at hx'
      rcases hr.2 with ⟨h1, h2⟩ | ⟨g, cap, cur, hvn, hz, hg, hcl, hcm, hcs, htk⟩
      · rw [h1] at hb; cases hb
      · rw [hvn] at hb; injection hb with hb; subst hb
        obtain ⟨k1, k2⟩ := setP_den (v := ⟨T, y⟩) hv p e xs[i] x' _ (he i hi) hx'
        have hfit := subT_fits p e T k1
        have hlen := hv.length
        have hi1 : (i + 1) * e.sz ≤ xs.length * e.sz := Nat.mul_le_mul_right _ hi
        have hi2 : xs.length * e.sz ≤ cap * e.sz := Nat.mul_le_mul_right _ hcl
        have hcl2 : cur.toList.length = cap * e.sz := by simpa using hcs
        rw [Nat.add_mul, Nat.one_mul] at hi1
        have hst := run_storeVar (P := P) (w := w) ht (g := g) (o := i * e.sz + e.off p) hvc (by rw [hlen]) hv.one hg (by omega)
        refine ⟨_, ?_, R1.turn (o := .arr e xs l) (o' := .arr e (xs.set i x') l) hf (live_of hne) (.inr ⟨_, l, rfl, by simp⟩) (live_of hne) (by cases l <;> rfl) (w' := w.setRow g (splice cur.toList (i * e.sz + e.off p) cs).toArray) (by simp) (fun b _ hb => ?_) (fun hok => ?_), hfr R1 hf rfl (by rw [hvn]; rfl) (by simp) rfl rfl rfl (fun k hk => setRow_other w g k _ hk)⟩
        · simp [Instr.storeAt, Instr.sureAddr, hst]
        · exact setRow_other w g b _ (fun e => hb (by rw [hvn, e]; rfl))
        · refine ⟨Tt, splice cs0 (i * e.sz + e.off p) cs, ⟨?_, .inr ⟨g, cap, (splice cur.toList (i * e.sz + e.off p) cs).toArray, ?_, hz, setRow_heap w g cur _ Tt _ hg, ?_, hcm, ?_, ?_⟩⟩, ?_⟩
          · rw [splice_length (by rw [hr.1]; omega), hr.1, List.length_set]
          · rw [hvn, List.length_set]
          · rw [List.length_set]; exact hcl
          · rw [List.size_toArray, splice_length (by omega)]; exact hcl2
          · rw [List.length_set, List.toList_toArray, splice_take (by omega) (by omega), htk]
          · intro j hj
            rw [List.length_set] at hj
            have hmove : ∀ {tt : Ty} {x : tt.I} {qs : List Value}, VDen (okB X φ (frz H d) w.heap.size) w tt x qs → VDen (okB X φ (upd (frz H d) n (.arr e (xs.set i x') l)) (w.setRow g (splice cur.toList (i * e.sz + e.off p) cs).toArray).heap.size) (w.setRow g (splice cur.toList (i * e.sz + e.off p) cs).toArray) tt x qs := fun hx => hx.mono hok (fun b hb => setRow_other w g b _ (fun e' => hb.2.2 n _ hf (live_of hne) (by rw [hvn, e']; rfl)))
            rw [block_at (by omega) (by rw [hr.1, Nat.add_mul, Nat.one_mul]; omega)]
            by_cases hji : j = i
            · subst hji
              rw [if_pos rfl]
              simp only [List.getElem_set_self]
              exact hmove k2
            · rw [if_neg hji, List.getElem_set_ne (fun e => hji e.symm)]
              exact hmove (he j hj)
    · cases h
  | box bt d0 =>
    obtain ⟨hsub, b, hb, rfl⟩ := hp
    obtain ⟨hct, g, Tt, cs0, v0, hvn, hg, hdd, hvc0, hl0⟩ := R.obs n _ ho
    rw [hvn] at hb; injection hb with hb; subst hb
    cases p with
    | nil =>
      simp only at h
      cases hbe : Ty.beq bt T with
      | false => rw [hbe] at h; cases h
      | true =>
        rw [hbe] at h
        obtain rfl := Ty.beq_eq _ _ hbe
        obtain ⟨d', hd', rfl⟩ := Option.map_eq_some_iff.1 h
        have key : ∃ vs : List Value, vd.cells = vs.toArray ∧ vs.length = bt.sz ∧ (∀ u ∈ vs, u.oneCell' = true) ∧ cont bt d' = some d' ∧ DDen X.ρ (okB X φ H w.heap.size) φ H w d' vd := by
          cases d with
          | val t' y =>
            obtain ⟨y', hy', he⟩ := Option.map_eq_some_iff.1 hd'
            obtain ⟨e', hx⟩ := castT_some hy'
            subst e'; subst hx; subst he
            obtain ⟨vs, h1, h2⟩ := hd
            exact ⟨vs, by rw [h2]; exact packV_cells h1, h1.length, h1.one, by simp [cont, castT_self], vs, h1, h2⟩
          | nil =>
            cases bt <;> simp [cont] at hd'
            subst hd'
            exact ⟨[vd], by rw [show vd = _ from hd]; rfl, rfl, by intro u hu; simp at hu; rw [hu, show vd = _ from hd]; rfl, rfl, hd⟩
          | ref m =>
            cases bt <;> simp [cont] at hd'
            subst hd'
            exact ⟨[vd], cells_one hd.2.1, rfl, by intro u hu; simp at hu; rw [hu]; exact hd.2.1, rfl, hd⟩
          | _ => simp [cont] at hd'
        obtain ⟨vs, hvc, hlen, hone, hc2, hdd'⟩ := key
        have hst := run_storeVar (P := P) (w := w) ht (g := g) (o := bt.off []) hvc hlen hone hg (by rw [off_nil]; simp; omega)
        rw [off_nil, show splice cs0.toArray.toList 0 vs = vs from splice_all (by simp; omega)] at hst
        refine ⟨_, ?_, R.turn (o := .box bt d0) (o' := .box bt d') ho rfl ⟨_, rfl⟩ rfl rfl (w' := w.setRow g vs.toArray) (by simp) (fun b _ hb => setRow_other w g b _ (fun e => hb (by rw [hvn, e]; rfl))) (fun hok => ?_), hfr R ho rfl (by rw [hvn]; rfl) (by simp) rfl rfl rfl (fun k hk => setRow_other w g k _ hk)⟩
        · rw [off_nil]; simp [Instr.storeAt, Instr.sureAddr, hst]
        · refine ⟨hc2, g, Tt, vs, vd, hvn, setRow_heap w g _ _ Tt _ hg, DDen.mono hok (fun b hb => setRow_other w g b _ (fun e' => hb.2.2 n _ ho rfl (by rw [hvn, e']; rfl))) (fun m o hm => ⟨rfl, ?_⟩) hdd', hvc, hlen⟩
          by_cases e : m = n
          · subst e; rw [ho] at hm; injection hm with hm; subst hm; exact ⟨_, upd_same _ _ _, _, rfl⟩
          · exact ⟨o, by rw [upd_ne e]; exact hm, Sim.refl _⟩
    | cons q p =>
      simp only at h
      have R1 := R.fz (frz_fz H d)
      split at h
      · rename_i bt' x y hs
        cases hbe : Ty.beq bt' bt with
        | false => rw [hbe] at h; cases h
        | true =>
          rw [hbe] at h
          obtain rfl := Ty.beq_eq _ _ hbe
          obtain ⟨x', hx', rfl⟩ := Option.map_eq_some_iff.1 h
          obtain ⟨vs, hv, hvd⟩ := snap_den R hd hs
          have hvc : vd.cells = vs.toArray := by rw [hvd]; exact packV_cells hv
          have hf : frz H d n = some (.box bt' (.val bt' x)) := by
            rcases frz_fz H d n with e | ⟨e, xs, h1, _⟩
            · rw [e]; exact ho
            · rw [ho] at h1; cases h1
          obtain ⟨cs1, h1, h2⟩ := hdd
          have h3 := packV_cells h1
          rw [← h2, hvc0] at h3
          have hcs : cs0 = cs1 := by simpa using congrArg Array.toList h3
          subst hcs
          obtain ⟨k1, k2⟩ := setP_den (v := ⟨T, y⟩) hv _ bt' x x' _ (h1.mono (fun _ => (frz_fz H d).ok) (fun _ _ => rfl)) hx'
          have hfit := subT_fits _ bt' T k1
          have hlen := hv.length
          have hst := run_storeVar (P := P) (w := w) ht (g := g) (o := bt'.off (q :: p)) hvc (by rw [hlen]) hv.one hg (by simp; omega)
          refine ⟨_, ?_, R1.turn (o := .box bt' (.val bt' x)) (o' := .box bt' (.val bt' x')) hf rfl ⟨_, rfl⟩ rfl rfl (w' := w.setRow g (splice cs0 (bt'.off (q :: p)) vs).toArray) (by simp) (fun b _ hb => setRow_other w g b _ (fun e => hb (by rw [hvn, e]; rfl))) (fun hok => ?_), hfr R1 hf rfl (by rw [hvn]; rfl) (by simp) rfl rfl rfl (fun k hk => setRow_other w g k _ hk)⟩
          · simp [Instr.storeAt, Instr.sureAddr, hst]
          · have hnew := k2.mono hok (fun b hb => setRow_other w g b (splice cs0 (bt'.off (q :: p)) vs).toArray (fun e' => hb.2.2 n _ hf rfl (by rw [hvn, e']; rfl)))
            exact ⟨by simp [cont, castT_self], g, Tt, _, _, hvn, setRow_heap w g _ _ Tt _ hg, ⟨_, hnew, rfl⟩, packV_cells hnew, hnew.length⟩
      · cases h
end
end Pm
end
section
/- Addresses, new variables, literals: the machine does what the plain reading says. -/
namespace Pm
open Go Go.RowKit

section
variable {P : Program} {X : Ctx} {φ : Nat → Value} {tm : List S} {H : Hp} {a : Act} {w : World}

/-- A field of a struct type. -/
def fieldB (P : Program) (T : Ty) (t : TypeId) (j : Nat) (p : List Bool) : Bool :=
  tyOk P T t && match P.underlying t with
    | some (.struct fs) => match fs[j]?, subT T p with
      | some f, some U => Nat.beq (T.off p) f.offset && tyOk P U f.type && Nat.blt 0 U.sz
      | _, _ => false
    | _ => false
theorem fieldB_spec {T : Ty} {t : TypeId} {j : Nat} {p : List Bool} (h : fieldB P T t j p = true) : tyOk P T t = true ∧ ∃ fs f U, P.underlying t = some (.struct fs) ∧ fs[j]? = some f ∧ subT T p = some U ∧ T.off p = f.offset ∧ tyOk P U f.type = true ∧ 0 < U.sz := by
  simp only [fieldB, Bool.and_eq_true] at h
  refine ⟨h.1, ?_⟩
  have h2 := h.2
  split at h2
  · rename_i fs hfs
    split at h2
    · rename_i f U hf hU
      simp only [Bool.and_eq_true, Nat.beq_eq] at h2
      exact ⟨fs, f, U, hfs, hf, hU, h2.1.1, h2.1.2, by simpa using h2.2⟩
    · cases h2
  · cases h2
theorem run_fieldAt {T : Ty} {t : TypeId} {j : Nat} {p : List Bool} (h : fieldB P T t j p = true) (ad : Addr) : (Instr.fieldAt t (.pointer (some ad)) j).run P w = .ok (.pointer (some (ad.add (T.off p)))) w := by
  obtain ⟨_, fs, f, U, hu, hf, _, ho, hU, hp⟩ := fieldB_spec h
  obtain ⟨i, z, hi, hs, _⟩ := info_of hU
  have : ¬ U.sz = 0 := by omega
  simp [Instr.fieldAt, run_underlying hu, hf, Instr.sureAddr, fieldPlace, Go.sizeOf, typeInfo, hi, hs, this, ho]
theorem fadr_den {T : Ty} {t : TypeId} {j : Nat} {p : List Bool} (h : fieldB P T t j p = true) {d : D} {v : Value} (hd : DDen X.ρ (okB X φ H w.heap.size) φ H w d v) {c : Chk} {s : S} {H' : Hp} (hc : core H (.fadr T p) [.d d] = some (c, s, H')) :
    H' = H ∧ ∃ v', (Instr.fieldAt t v j).run P w = .ok v' w ∧ SDen X.ρ (okB X φ H w.heap.size) φ H w s v' := by
  cases d with
  | ptr n i q =>
    obtain ⟨o, ho, hp⟩ := hd
    simp only [core, fadrI, ho] at hc
    cases o with
    | dead => split at hc <;> first | (rename_i hx; cases hx) | cases hc
    | arr e xs l =>
      simp only at hc
      split at hc
      · rename_i U t' h1 h2
        cases hb : Ty.beq t' T with
        | false => rw [hb] at hc; cases hc
        | true =>
          rw [hb] at hc
          obtain rfl := Ty.beq_eq _ _ hb
          simp only [cond_true, Option.some.injEq, Prod.mk.injEq] at hc
          obtain ⟨rfl, rfl, rfl⟩ := hc
          obtain ⟨hi, _, b, hbk, rfl⟩ := hp
          obtain ⟨g1, g2⟩ := subT_append q p e t' h2
          refine ⟨rfl, _, run_fieldAt h _, _, ho, hi, by rw [g1, h1]; rfl, b, hbk, ?_⟩
          rw [add_lit, g2, Nat.add_assoc]
      · cases hc
    | box bt d0 =>
      simp only at hc
      split at hc
      · rename_i U t' h1 h2
        cases hb : Ty.beq t' T with
        | false => rw [hb] at hc; cases hc
        | true =>
          rw [hb] at hc
          obtain rfl := Ty.beq_eq _ _ hb
          simp only [cond_true, Option.some.injEq, Prod.mk.injEq] at hc
          obtain ⟨rfl, rfl, rfl⟩ := hc
          obtain ⟨_, b, hbk, rfl⟩ := hp
          obtain ⟨g1, g2⟩ := subT_append q p bt t' h2
          refine ⟨rfl, _, run_fieldAt h _, _, ho, by rw [g1, h1]; rfl, b, hbk, ?_⟩
          rw [add_lit, g2]
      · cases hc
  | iptr t' x =>
    simp only [core, fadrI] at hc
    split at hc
    · rename_i u hu
      cases hb : Ty.beq t' T with
      | false => rw [hb] at hc; cases hc
      | true =>
        rw [hb] at hc
        obtain rfl := Ty.beq_eq _ _ hb
        simp only [cond_true, Option.some.injEq, Prod.mk.injEq] at hc
        obtain ⟨rfl, rfl, rfl⟩ := hc
        obtain ⟨ad, cs, rfl, hv, hcl, hok⟩ := hd
        obtain ⟨k1, k2⟩ := getP_den p _ _ _ hv _ hu
        refine ⟨rfl, _, run_fieldAt h _, ad.add (t'.off p), _, rfl, k2, fun j u hj => ?_, fun hne => ?_⟩
        · rw [add_add']
          apply hcl
          rw [List.getElem?_take] at hj
          split at hj
          · rw [List.getElem?_drop] at hj; exact hj
          · cases hj
        · rw [add_block]; apply hok; rintro rfl; simp at hne
    · cases hc
  | _ => simp [core, fadrI] at hc

/-- The elements' type of a slice type. -/
def slB (P : Program) (e : Ty) (t : TypeId) : Bool :=
  match P.underlying t with
  | some (.slice u) => tyOk P e u && Nat.blt 0 e.sz
  | _ => false
theorem slB_spec {e : Ty} {t : TypeId} (h : slB P e t = true) : ∃ u, P.underlying t = some (.slice u) ∧ tyOk P e u = true ∧ 0 < e.sz := by
  unfold slB at h
  split at h
  · rename_i u hu
    simp only [Bool.and_eq_true] at h
    exact ⟨u, hu, h.1, by simpa using h.2⟩
  · cases h
theorem run_indexAt {e : Ty} {t : TypeId} (h : slB P e t = true) {ad : Addr} {n c : Nat} {k : IntKind} {i : Int} (h0 : 0 ≤ i) (h1 : i < (n : Int)) : (Instr.indexAt t (.slice (some ad) n c) (.int k i)).run P w = .ok (.pointer (some (ad.add (i.toNat * e.sz)))) w := by
  obtain ⟨u, hu, hk, _⟩ := slB_spec h
  obtain ⟨inf, z, hi, hs, _⟩ := info_of hk
  simp [Instr.indexAt, asIntOf, run_underlying hu, h0, h1, Go.sizeOf, typeInfo, hi, hs]
theorem frz_id {d : D} (h : ∀ n, d ≠ .ref n) : frz H d = H := by cases d <;> first | rfl | exact absurd rfl (h _)
theorem idxI_den (R : Rel X φ tm H a w) {e : Ty} {t : TypeId} (h : slB P e t = true) {d : D} {v : Value} {k : IntKind} {i : Int} (hd : DDen X.ρ (okB X φ H w.heap.size) φ H w d v) {c : Chk} {s : S} (hc : idxI H e i d = some (c, s)) (hp : c.p) :
    ∃ v', (Instr.indexAt t v (.int k i)).run P w = .ok v' w ∧ SDen X.ρ (okB X φ H w.heap.size) φ H w s v' := by
  have data : ∀ {xs : List e.I}, (∀ n, d ≠ .ref n) → snap H (.sl e) d = some xs → some (Chk.of (0 ≤ i ∧ i < ((List.length xs : Nat) : Int)), S.d (.iptr e (List.getD xs i.toNat e.z))) = some (c, s) →
      ∃ v', (Instr.indexAt t v (.int k i)).run P w = .ok v' w ∧ SDen X.ρ (okB X φ H w.heap.size) φ H w s v' := by
    intro xs hne hs he
    injection he with he
    injection he with he1 he2
    subst he1; subst he2
    obtain ⟨h0, h1⟩ := hp
    have := snap_den R hd hs
    rw [frz_id hne] at this
    obtain ⟨cs, ⟨A, cc, rfl, hl, hr⟩, rfl⟩ := this
    have hi : i.toNat < xs.length := by omega
    obtain ⟨ad, ecs, rfl, hv, hcl, hok⟩ := hr i.toNat hi
    refine ⟨_, run_indexAt h h0 h1, ad.add (i.toNat * e.sz), ecs, rfl, ?_, fun j u hj => ?_, fun _ => by rw [add_block]; exact hok⟩
    · rw [show List.getD xs i.toNat e.z = xs[i.toNat] from by simp [List.getD_eq_getElem?_getD, hi]]
      exact hv
    · rw [add_add']; exact hcl j u hj
  cases d with
  | ref n =>
    obtain ⟨rfl, _, o, ho, hrow⟩ := hd
    simp only [idxI, ho] at hc
    cases o with
    | arr e' xs l =>
      simp only at hc
      cases hb : Ty.beq e' e with
      | false => rw [hb] at hc; cases hc
      | true =>
        rw [hb] at hc
        obtain rfl := Ty.beq_eq _ _ hb
        simp only [cond_true, Option.some.injEq, Prod.mk.injEq] at hc
        obtain ⟨rfl, rfl⟩ := hc
        obtain ⟨h0, h1⟩ := hp
        obtain ⟨T, cs, hr, he⟩ := R.obs n _ ho
        rcases hr.2 with ⟨_, h2⟩ | ⟨g, cap, cur, hv, _⟩
        · exfalso; omega
        · rw [hv]
          refine ⟨_, run_indexAt h h0 h1, _, ho, by omega, by rw [subT_nil]; rfl, g, by rw [hv]; rfl, ?_⟩
          rw [add_lit, off_nil]; simp
    | box => cases hc
    | dead => cases hc
  | val t' x =>
    simp only [idxI] at hc
    split at hc
    · rename_i xs hs; exact data (by intro n; simp) hs hc
    · cases hc
  | nil => exact data (xs := []) (by intro n; simp) rfl hc
  | fsl e' xs =>
    simp only [idxI] at hc
    split at hc
    · rename_i xs hs; exact data (by intro n; simp) hs hc
    · cases hc
  | nn e' xs =>
    simp only [idxI] at hc
    split at hc
    · rename_i xs hs; exact data (by intro n; simp) hs hc
    · cases hc
  | _ => simp [idxI, snap] at hc

/-- A new variable. -/
theorem Rel.newBox (R : Rel X φ tm H a w) {nm : Nat} (hnm : H nm = none) {T : Ty} {d : D} {v : Value} {t : TypeId} (hc : cont T d = some d) (hd : DDen X.ρ (okB X φ H w.heap.size) φ H w d v) {cs : List Value} (hv : v.cells = cs.toArray) (hl : cs.length = T.sz) :
    Rel X (setφ φ nm (.pointer (some ⟨w.heap.size, 0, none⟩))) tm (upd H nm (.box T d)) a (w.alloc (.cells v.cells t)) := by
  have hg : w.grownBy (w.alloc (.cells v.cells t)) none := World.grownBy_alloc w _ none
  have hb : ∀ b, blk (.pointer (some ⟨w.heap.size, 0, none⟩)) = some b → w.heap.size ≤ b := fun b h => by injection h with h; subst h; exact Nat.le_refl _
  refine R.new hnm hg hb rfl ⟨hc, w.heap.size, t, cs, v, setφ_same _ _ _, by rw [heap_alloc_new, hv], ?_, hv, hl⟩
  exact DDen.mono (fun b h => new_ok hg.size hb h) (fun b h => hg.block b h.2.1 (by simp)) (new_map hnm) hd
theorem newBox_den {ok : Nat → Prop} {w' : World} {nm : Nat} {T : Ty} {d : D} : SDen X.ρ ok (setφ φ nm (.pointer (some ⟨w.heap.size, 0, none⟩))) (upd H nm (.box T d)) w' (.d (.ptr nm 0 [])) (.pointer (some ⟨w.heap.size, 0, none⟩)) :=
  ⟨_, upd_same _ _ _, by rw [subT_nil]; rfl, w.heap.size, by rw [setφ_same]; rfl, by rw [off_nil]⟩
end
end Pm
end
section
/- Literals: structs and slices. -/
namespace Pm
open Go Go.RowKit

section
variable {P : Program} {X : Ctx} {φ : Nat → Value} {tm : List S} {H : Hp} {a : Act} {w : World}

theorem foldl_set (off : Nat) : ∀ (l : List Value) (j0 : Nat) (cells : Array Value), off + j0 + l.length ≤ cells.size →
    ((l.zipIdx j0).foldl (fun cs (x : Value × Nat) => cs.setIfInBounds (off + x.2) x.1) cells).toList = splice cells.toList (off + j0) l
  | [], j0, cells, h => by simp [splice]
  | c :: l, j0, cells, h => by
    simp only [List.length_cons] at h
    rw [List.zipIdx_cons, List.foldl_cons, foldl_set off l (j0 + 1) _ (by simp; omega)]
    apply List.ext_getElem?
    intro k
    rw [splice_get (by simp; omega), splice_get (by simp; omega)]
    simp only [Array.toList_setIfInBounds, List.getElem?_set, List.length_cons, Array.length_toList]
    by_cases h1 : k < off + j0
    · rw [if_pos (by omega), if_neg (by omega), if_pos h1]
    · rw [if_neg h1]
      by_cases h2 : k = off + j0
      · subst h2
        rw [if_pos (by omega), if_pos rfl, if_pos (by omega), if_pos (by omega)]
        simp
      · rw [if_neg (by omega)]
        by_cases h3 : k < off + (j0 + 1) + l.length
        · rw [if_pos h3, if_pos (by omega), show k - (off + j0) = (k - (off + (j0 + 1))) + 1 from by omega, List.getElem?_cons_succ]
        · rw [if_neg h3, if_neg (by omega), if_neg (by omega)]
theorem fill_step {place : Nat → Option (Nat × Nat)} {cells : Array Value} {i : Nat} {v : Value} {rest : List (Nat × Value)} {off : Nat} (hp : place i = some (off, v.cells.size)) (hf : off + v.cells.size ≤ cells.size) :
    ∃ c2, Instr.fill place cells ((i, v) :: rest) = Instr.fill place c2 rest ∧ c2.toList = splice cells.toList off v.cells.toList := by
  refine ⟨_, ?_, foldl_set off v.cells.toList 0 cells (by simpa using hf)⟩
  have hn : ¬ (off + v.cells.size > cells.size) := by omega
  simp only [Instr.fill, hp]
  simp only [ne_eq, not_true_eq_false, hn, decide_false, Bool.or_self, Bool.false_eq_true, if_false]
  rw [← Array.foldl_toList, Array.toList_zipIdx]

/-- The parts of a struct literal. -/
def partsB (P : Program) (T : Ty) (t : TypeId) : List (Nat × Operand) → List (List Bool × Ty) → Bool
  | [], [] => true
  | x :: xs, q :: qs => fieldB P T t x.1 q.1 && (match subT T q.1 with | some U => Ty.beq U q.2 | none => false) && partsB P T t xs qs
  | _, _ => false
theorem builds_den {T : Ty} {t : TypeId} {ok : Nat → Prop} {fs : Array Field} {places : List (Nat × Nat)} (hu : P.underlying t = some (.struct fs)) (hpl : ∀ (j : Nat) (f : Field) (U : Ty), fs[j]? = some f → tyOk P U f.type = true → places[j]? = some (f.offset, U.sz)) :
    ∀ (ps : List (Nat × Operand)) (qs : List (List Bool × Ty)) (tvs : List TV) (us : List Value) (x x' : T.I) (cells : Array Value),
      partsB P T t ps qs = true → VDen ok w T x cells.toList → All2 (fun (y : TV) v => VV ok w y.t y.x v) tvs us → us.length = ps.length → builds T x qs tvs = some x' → (tvs.map (·.t) = qs.map (·.2)) →
      ∃ cells', Instr.fill (places.toArray[·]?) cells ((ps.map (·.1)).zip us) = some cells' ∧ VDen ok w T x' cells'.toList
  | [], [], [], us, x, x', cells, _, hx, h, hl, hb, _ => by
    cases us with
    | cons => exact h.elim
    | nil => simp [builds] at hb; subst hb; exact ⟨cells, by simp [Instr.fill], hx⟩
  | pt :: ps, q :: qs, tv :: tvs, us, x, x', cells, hpb, hx, h, hl, hb, ht => by
    cases us with
    | nil => exact h.elim
    | cons u us =>
      simp only [partsB, Bool.and_eq_true] at hpb
      simp only [builds] at hb
      split at hb
      · rename_i y hy
        obtain ⟨vs, hv, rfl⟩ := h.1
        obtain ⟨k1, k2⟩ := setP_den hv q.1 T x y _ hx hy
        obtain ⟨_, fs', f, U, hu', hf, hU, ho, hUt, _⟩ := fieldB_spec hpb.1.1
        rw [hu] at hu'; injection hu' with hu'; injection hu' with hu'; subst hu'
        rw [k1] at hU; injection hU with hU; subst hU
        have hvc := packV_cells hv
        have hsz : (packV tv.t vs).cells.size = tv.t.sz := by rw [hvc]; simp [hv.length]
        have hfit := subT_fits q.1 T _ k1
        have hcl : cells.size = T.sz := by simpa using hx.length
        obtain ⟨c2, e1, e2⟩ := fill_step (place := (places.toArray[·]?)) (cells := cells) (i := pt.1) (v := packV tv.t vs) (rest := (ps.map (·.1)).zip us) (off := f.offset) (by rw [hsz]; simpa using hpl _ _ _ hf hUt) (by rw [hsz, hcl, ← ho]; exact hfit)
        obtain ⟨cells', e3, e4⟩ := builds_den hu hpl ps qs tvs us y x' c2 hpb.2 (by rw [e2, hvc, ← ho]; exact k2) h.2 (by simpa using hl) hb (by simpa using (List.cons.inj ht).2)
        exact ⟨cells', by simp only [List.map_cons, List.zip_cons_cons]; rw [e1, e3], e4⟩
      · cases hb
  | [], [], _ :: _, _, _, _, _, _, _, _, _, hb, _ => by simp [builds] at hb
  | _ :: _, _ :: _, [], _, _, _, _, _, _, _, _, hb, _ => by simp [builds] at hb
  | [], _ :: _, _, _, _, _, _, hpb, _, _, _, _, _ => by simp [partsB] at hpb
  | _ :: _, [], _, _, _, _, _, hpb, _, _, _, _, _ => by simp [partsB] at hpb
theorem snaps_types : ∀ {ts : List Ty} {ss : List S} {xs : List TV}, snaps H ts ss = some xs → xs.map (·.t) = ts
  | [], [], xs, h => by simp [snaps] at h; subst h; rfl
  | t :: ts, .d d :: ss, xs, h => by
    simp only [snaps] at h
    split at h
    · rename_i y ys h1 h2
      injection h with h; subst h
      simp [snaps_types h2]
    · cases h
  | [], _ :: _, _, h => by simp [snaps] at h
  | _ :: _, [], _, h => by simp [snaps] at h
  | _ :: _, .tup _ :: _, _, h => by simp [snaps] at h
/-- All fields of a struct type have a size. -/
def sizedB (P : Program) (t : TypeId) : Bool :=
  match P.underlying t with
  | some (.struct fs) => fs.toList.all fun f => (P.info? f.type).isSome
  | _ => false
theorem places_of : ∀ (fs : List Field), (fs.all fun f => (P.info? f.type).isSome) = true → ∃ places, fs.mapM (fun f => (P.info? f.type).map fun i => (f.offset, i.size)) = some places ∧ ∀ (j : Nat) (f : Field) (U : Ty), fs[j]? = some f → tyOk P U f.type = true → places[j]? = some (f.offset, U.sz)
  | [], _ => ⟨[], rfl, fun j f U h => by simp at h⟩
  | f :: fs, h => by
    simp only [List.all_cons, Bool.and_eq_true] at h
    obtain ⟨i, hi⟩ := Option.isSome_iff_exists.1 h.1
    obtain ⟨places, h1, h2⟩ := places_of fs h.2
    refine ⟨(f.offset, i.size) :: places, by simp [List.mapM_cons, hi, h1], fun j g U hj hU => ?_⟩
    cases j with
    | zero =>
      simp at hj; subst hj
      obtain ⟨i', z, hi', hs, _⟩ := info_of hU
      rw [hi] at hi'; injection hi' with hi'; subst hi'
      simp [hs]
    | succ j => simpa using h2 j g U (by simpa using hj) hU
theorem build_den {T : Ty} {t : TypeId} {ok : Nat → Prop} (ht : tyOk P T t = true) (hag : T.agg = true) (hsz : sizedB P t = true) {ps : List (Nat × Operand)} {qs : List (List Bool × Ty)} {tvs : List TV} {us : List Value} {x' : T.I}
    (hpb : partsB P T t ps qs = true) (h : All2 (fun (y : TV) v => VV ok w y.t y.x v) tvs us) (hl : us.length = ps.length) (hb : builds T T.z qs tvs = some x') (hty : tvs.map (·.t) = qs.map (·.2)) :
    ∃ v', (Instr.build t ((ps.map (·.1)).zip us).toArray).run P w = .ok v' w ∧ VV ok w T x' v' := by
  obtain ⟨it, z, hi, hs, hz, hzb, _, _⟩ := info_of ht
  unfold sizedB at hsz
  split at hsz
  · rename_i fs hu
    obtain ⟨places, h1, h2⟩ := places_of fs.toList hsz
    obtain ⟨cells', e1, e2⟩ := builds_den (ok := ok) (w := w) hu (fun j f U hj => h2 j f U (by simpa using hj)) ps qs tvs us T.z x' z.cells hpb (zB_den hzb) h hl hb hty
    refine ⟨.agg cells', run_build w t _ cells' ?_, cells'.toList, e2, by simp [packV, hag]⟩
    unfold Program.built
    rw [hi, hu]
    simp only [hz, h1]
    exact e1
  · cases hsz

/-- Rows of zeros. -/
theorem zeros_block {z : Array Value} {s n i : Nat} (hs : z.size = s) (hp : 0 < s) (hi : i < n) : ((madeCells z (n * s)).toList.drop (i * s)).take s = z.toList := by
  have h1 : (i + 1) * s ≤ n * s := Nat.mul_le_mul_right _ hi
  rw [Nat.add_mul, Nat.one_mul] at h1
  apply List.ext_getElem?
  intro k
  rw [List.getElem?_take, List.getElem?_drop]
  by_cases hk : k < s
  · rw [if_pos hk]
    have hlt : i * s + k < n * s := by omega
    have hm : (i * s + k) % s = k := by rw [Nat.add_comm, Nat.add_mul_mod_self_right, Nat.mod_eq_of_lt hk]
    have hz : k < z.size := by omega
    simp [madeCells, hlt, hs, hm]
    rw [getElem!_pos z k hz]
    simp [hz]
  · rw [if_neg hk]
    symm; apply List.getElem?_eq_none; simp; omega
theorem ElemsD_zeros {ok : Nat → Prop} {e : Ty} {z : Value} {n : Nat} (hz : zB e z.cells.toList = true) (hs : z.cells.size = e.sz) (hp : 0 < e.sz) : ElemsD ok w e (List.replicate n e.z) (madeCells z.cells (n * e.sz)).toList := by
  intro i hi
  simp only [List.length_replicate] at hi
  rw [zeros_block hs hp hi, List.getElem_replicate]
  exact zB_den hz
theorem sets_den {e : Ty} {ok : Nat → Prop} (hp : 0 < e.sz) : ∀ (ix : List Nat) (tvs : List TV) (us : List Value) (xs xs' : List e.I) (cells : Array Value),
    ElemsD ok w e xs cells.toList → cells.size = xs.length * e.sz → All2 (fun (y : TV) v => VV ok w y.t y.x v) tvs us → us.length = ix.length → sets e xs ix tvs = some xs' →
    ∃ cells', Instr.fill (fun i => some (i * e.sz, e.sz)) cells (ix.zip us) = some cells' ∧ ElemsD ok w e xs' cells'.toList ∧ xs'.length = xs.length ∧ cells'.size = cells.size
  | [], [], us, xs, xs', cells, hx, hc, h, hl, hb => by
    cases us with
    | cons => exact h.elim
    | nil => simp [sets] at hb; subst hb; exact ⟨cells, by simp [Instr.fill], hx, rfl, rfl⟩
  | i :: ix, tv :: tvs, us, xs, xs', cells, hx, hc, h, hl, hb => by
    cases us with
    | nil => exact h.elim
    | cons u us =>
      simp only [sets] at hb
      split at hb
      · rename_i y hy
        cases hlt : Nat.blt i xs.length with
        | false => rw [hlt] at hb; cases hb
        | true =>
          rw [hlt] at hb
          simp only [cond_true] at hb
          have hi : i < xs.length := by simpa using hlt
          obtain ⟨e', hx'⟩ := castT_some hy
          obtain ⟨ut, ux⟩ := tv
          simp only at e' hx'
          subst e'; subst hx'
          obtain ⟨vs, hv, rfl⟩ := h.1
          have hvc := packV_cells hv
          have hvl : vs.length = ut.sz := hv.length
          have hsz : (packV ut vs).cells.size = ut.sz := by rw [hvc]; simp [hvl]
          have h1 : (i + 1) * ut.sz ≤ xs.length * ut.sz := Nat.mul_le_mul_right _ hi
          have h1' := h1
          rw [Nat.add_mul, Nat.one_mul] at h1'
          obtain ⟨c2, e1, e2⟩ := fill_step (place := fun i => some (i * ut.sz, ut.sz)) (cells := cells) (i := i) (v := packV ut vs) (rest := ix.zip us) (off := i * ut.sz) (by rw [hsz]) (by rw [hsz, hc]; exact h1')
          have hc2 : c2.size = cells.size := by
            have := congrArg List.length e2
            rw [splice_length (by rw [hvc]; simp; omega)] at this
            simpa using this
          obtain ⟨cells', e3, e4, e5, e6⟩ := sets_den hp ix tvs us (xs.set i ux) xs' c2 (fun j hj => by
            rw [List.length_set] at hj
            rw [e2, hvc]
            have hba := block_at (cs := cells.toList) (vs := vs) (s := ut.sz) (i := i) (j := j) (q := 0) (by omega) (by simpa [hc] using h1)
            simp only [Nat.add_zero] at hba
            rw [hba]
            by_cases hji : j = i
            · subst hji
              rw [if_pos rfl, splice_all (by have := (hx j hi).length; omega)]
              simpa using hv
            · rw [if_neg hji, List.getElem_set_ne (fun e => hji e.symm)]
              exact hx j hj) (by rw [hc2, hc, List.length_set]) h.2 (by simpa using hl) hb
          exact ⟨cells', by simp only [List.zip_cons_cons]; rw [e1, e3], e4, by rw [e5, List.length_set], by rw [e6, hc2]⟩
      · cases hb
  | [], _ :: _, _, _, _, _, _, _, _, _, hb => by simp [sets] at hb
  | _ :: _, [], _, _, _, _, _, _, _, _, hb => by simp [sets] at hb

/-- A new row of the call's own. -/
theorem Rel.newArr {w' : World} (R : Rel X φ tm H a w) {nm : Nat} (hnm : H nm = none) {e : Ty} {xs : List e.I} {v : Value} {T : TypeId} {cs : List Value} (hg : w.grownBy w' none) (hr : w'.ownsRow w.heap.size T e.sz v xs.length cs) (he : ElemsD (okB X φ H w.heap.size) w e xs cs) :
    Rel X (setφ φ nm v) tm (upd H nm (.arr e xs .lv)) a w' ∧ (∀ {ok : Nat → Prop} {w2 : World}, SDen X.ρ ok (setφ φ nm v) (upd H nm (.arr e xs .lv)) w2 (.d (.ref nm)) v) ∧ Fr X w w' := by
  have hb : ∀ b, blk v = some b → w.heap.size ≤ b := fun b h => by
    rcases hr.2 with ⟨h1, _⟩ | ⟨g, cap, cur, hv, hgb, _⟩
    · rw [h1] at h; cases h
    · rw [hv] at h; injection h with h; subst h; exact hgb
  have h1 : v.oneCell' = true := by
    rcases hr.2 with ⟨h1, _⟩ | ⟨g, cap, cur, hv, _⟩
    · rw [h1]; rfl
    · rw [hv]; rfl
  have hr0 : w'.ownsRow 0 T e.sz v xs.length cs := by
    refine ⟨hr.1, ?_⟩
    rcases hr.2 with h | ⟨g, cap, cur, hv, _, rest⟩
    · exact .inl h
    · exact .inr ⟨g, cap, cur, hv, Nat.zero_le _, rest⟩
  refine ⟨R.new hnm hg hb rfl ⟨T, cs, by rw [setφ_same]; exact hr0, fun i hi => (he i hi).mono (fun b h => new_ok hg.size hb h) (fun b h => hg.block b h.2.1 (by simp))⟩, ?_, Fr.grown R.bnd hg (by simp)⟩
  intro ok w2
  exact ⟨(setφ_same _ _ _).symm, h1, _, upd_same _ _ _, rfl⟩
end
end Pm
end
section
/- Rows that are cut, appended to, copied, made. -/
namespace Pm
open Go Go.RowKit

section
variable {P : Program} {X : Ctx} {φ : Nat → Value} {tm : List S} {H : Hp} {a : Act} {w : World}

/-- The cells of a row of data, one after the other. -/
theorem rows_flat {ok : Nat → Prop} {e : Ty} {ad : Addr} {ys : List e.I} (h : RowsD ok w e (some ad) ys) : ∀ n, n ≤ ys.length → ∃ news : List Value, news.length = n * e.sz ∧ (∀ j u, news[j]? = some u → w.cell? (ad.add j) = some u) ∧ (∀ u ∈ news, u.oneCell' = true) ∧ ∀ i (hi : i < ys.length), i < n → VDen ok w e ys[i] ((news.drop (i * e.sz)).take e.sz)
  | 0, _ => ⟨[], by simp, by simp, by simp, fun i _ hi => by omega⟩
  | n + 1, hn => by
    obtain ⟨news, h1, h2, h3, h4⟩ := rows_flat h n (by omega)
    obtain ⟨ad', ecs, he, hv, hc, _⟩ := h n (by omega)
    injection he with he; subst he
    have hvl := hv.length
    refine ⟨news ++ ecs, by rw [List.length_append, h1, hvl, Nat.add_mul, Nat.one_mul], fun j u hj => ?_, fun u hu => ?_, fun i hi hin => ?_⟩
    · by_cases hjn : j < news.length
      · rw [List.getElem?_append_left hjn] at hj; exact h2 j u hj
      · rw [List.getElem?_append_right (by omega)] at hj
        have := hc _ u hj
        rwa [show n * e.sz + (j - news.length) = j from by omega] at this
    · rcases List.mem_append.1 hu with hu | hu
      · exact h3 u hu
      · exact hv.one u hu
    · by_cases hin' : i < n
      · have hm : (i + 1) * e.sz ≤ n * e.sz := Nat.mul_le_mul_right _ hin'
        rw [Nat.add_mul, Nat.one_mul] at hm
        rw [cut_left (by simp; omega)]
        exact h4 i hi hin'
      · obtain rfl : i = n := by omega
        rw [← h1, List.drop_left, ← hvl, List.take_length]
        exact hv
theorem rows_all {ok : Nat → Prop} {e : Ty} {ad : Addr} {ys : List e.I} (h : RowsD ok w e (some ad) ys) : ∃ news : List Value, news.length = ys.length * e.sz ∧ (∀ j u, news[j]? = some u → w.cell? (ad.add j) = some u) ∧ (∀ u ∈ news, u.oneCell' = true) ∧ ElemsD ok w e ys news := by
  obtain ⟨news, h1, h2, h3, h4⟩ := rows_flat h ys.length (Nat.le_refl _)
  exact ⟨news, h1, h2, h3, fun i hi => h4 i hi hi⟩
theorem ElemsD.append {ok : Nat → Prop} {e : Ty} {xs ys : List e.I} {cs ds : List Value} (h1 : cs.length = xs.length * e.sz) (h2 : ElemsD ok w e xs cs) (h3 : ElemsD ok w e ys ds) : ElemsD ok w e (xs ++ ys) (cs ++ ds) := by
  intro i hi
  rw [List.length_append] at hi
  by_cases hx : i < xs.length
  · have hm : (i + 1) * e.sz ≤ xs.length * e.sz := Nat.mul_le_mul_right _ hx
    rw [Nat.add_mul, Nat.one_mul] at hm
    rw [List.getElem_append_left hx, cut_left (by simp; omega)]
    exact h2 i hx
  · rw [List.getElem_append_right (by omega)]
    have hm : xs.length * e.sz ≤ i * e.sz := Nat.mul_le_mul_right _ (by omega)
    rw [show i * e.sz = xs.length * e.sz + (i - xs.length) * e.sz from by rw [← Nat.add_mul]; congr 1; omega, cut_right h1]
    exact h3 (i - xs.length) (by omega)
theorem ElemsD.take {ok : Nat → Prop} {e : Ty} {xs : List e.I} {cs : List Value} (n : Nat) (h2 : ElemsD ok w e xs cs) : ElemsD ok w e (xs.take n) (cs.take (n * e.sz)) := by
  intro i hi
  rw [List.length_take] at hi
  have hm : (i + 1) * e.sz ≤ n * e.sz := Nat.mul_le_mul_right _ (by omega)
  rw [Nat.add_mul, Nat.one_mul] at hm
  rw [List.getElem_take]
  have := h2 i (by omega)
  rwa [show ((cs.take (n * e.sz)).drop (i * e.sz)).take e.sz = (cs.drop (i * e.sz)).take e.sz from by rw [List.drop_take, List.take_take]; congr 1; omega]
theorem ElemsD.drop {ok : Nat → Prop} {e : Ty} {xs : List e.I} {cs : List Value} (n : Nat) (h2 : ElemsD ok w e xs cs) : ElemsD ok w e (xs.drop n) (cs.drop (n * e.sz)) := by
  intro i hi
  rw [List.length_drop] at hi
  rw [List.getElem_drop, List.drop_drop]
  have := h2 (n + i) (by omega)
  rwa [Nat.add_mul] at this
theorem RowsD.drop {ok : Nat → Prop} {e : Ty} {A : Option Addr} {xs : List e.I} (n : Nat) (h : RowsD ok w e A xs) : RowsD ok w e (A.map (·.add (n * e.sz))) (xs.drop n) := by
  intro i hi
  rw [List.length_drop] at hi
  obtain ⟨ad, ecs, rfl, hv, hc, ho⟩ := h (n + i) (by omega)
  refine ⟨ad.add (n * e.sz), ecs, rfl, by rw [List.getElem_drop]; exact hv, fun j v hj => ?_, by rw [add_block]; exact ho⟩
  rw [add_add', ← Nat.add_assoc, ← Nat.add_mul]
  exact hc j v hj
theorem RowsD.take {ok : Nat → Prop} {e : Ty} {A : Option Addr} {xs : List e.I} (n : Nat) (h : RowsD ok w e A xs) : RowsD ok w e A (xs.take n) := by
  intro i hi
  rw [List.length_take] at hi
  rw [List.getElem_take]
  exact h i (by omega)
theorem RowsD.nil {ok : Nat → Prop} {e : Ty} {A : Option Addr} {xs : List e.I} (h : xs.length = 0) : RowsD ok w e A xs := fun i hi => by omega

/-- An append onto a row of one's own. -/
theorem app_room {t u : TypeId} {ty : TypeId} {inf : TypeInfo} (ht : P.underlying t = some (.slice u)) (hi : P.info? u = some inf) {g n cap : Nat} {cur : Array Value} {T : TypeId} (hg : w.heap[g]? = some (.cells cur T (0, 0)))
    {ad : Addr} {m c : Nat} {news : List Value} (hl : news.length = m * inf.size) (hnews : ∀ j u, news[j]? = some u → w.cell? (ad.add j) = some u) (h1 : ∀ u ∈ news, u.oneCell' = true) (hroom : n + m ≤ cap) (hfit : n * inf.size + news.length ≤ cur.size) :
    (Builtin.append_ #[t, t] ty #[.slice (some ⟨g, 0, none⟩) n cap, .slice (some ad) m c]).run P w = .ok (.slice (some ⟨g, 0, none⟩) (n + m) cap) (w.setRow g (splice cur.toList (n * inf.size) news).toArray) := by
  have hf := run_firstCells_some (P := P) w inf.size m ad m c news hl hnews
  have hst := run_storeCells_at P g (n * inf.size) T news 0 cur w hg (by simpa using hfit) h1
  simp only [Nat.add_zero] at hst
  simp [Builtin.append_, run_underlying ht, Go.sizeOf, typeInfo, hi, Builtin.lenOf, hroom, hf, Addr.add_lit, hst, splice]
theorem run_app {e : Ty} {t u ty : TypeId} (ht : P.underlying t = some (.slice u)) (hk : tyOk P e u = true) (hp : 0 < e.sz) {v : Value} {n : Nat} {cs : List Value} {T : TypeId} (hr : w.ownsRow 0 T e.sz v n cs)
    {A : Option Addr} {m c : Nat} {news : List Value} (hl : news.length = m * e.sz) (hA : A = none → m = 0) (hnews : ∀ ad, A = some ad → ∀ j u, news[j]? = some u → w.cell? (ad.add j) = some u) (h1 : ∀ u ∈ news, u.oneCell' = true)
    (hlim : ∀ inf, P.info? u = some inf → (n + m) * inf.bytes ≤ 140737488355328) :
    ∃ v' w' T', (Builtin.append_ #[t, t] ty #[v, .slice A m c]).run P w = .ok v' w' ∧ w'.ownsRow 0 T' e.sz v' (n + m) (cs ++ news) ∧ w.grownBy w' (blk v) ∧ (∀ b, blk v' = some b → blk v = some b ∨ w.heap.size ≤ b) ∧ v'.oneCell' = true := by
  obtain ⟨inf, z, hi, hs, hz, hzb, hby, hzs⟩ := info_of hk
  have hlim := hlim inf hi
  have hbig : n + m ≤ 140737488355328 := Nat.le_trans (Nat.le_mul_of_pos_right _ hby) hlim
  cases A with
  | none =>
    obtain rfl := hA rfl
    have hn : news = [] := List.eq_nil_of_length_eq_zero (by simpa using hl)
    subst hn
    refine ⟨v, w, T, ?_, by simpa using hr, ⟨rfl, rfl, rfl, Nat.le_refl _, fun _ _ _ => rfl⟩, fun b h => .inl h, ?_⟩
    · rcases hr.2 with ⟨rfl, rfl⟩ | ⟨g, cap, cur, rfl, _, _, hnc, _⟩
      · simp [Builtin.append_, run_underlying ht, Go.sizeOf, typeInfo, hi, Builtin.lenOf, Builtin.firstCells]
      · simp [Builtin.append_, run_underlying ht, Go.sizeOf, typeInfo, hi, Builtin.lenOf, Builtin.firstCells, hnc, storeCells]
    · rcases hr.2 with ⟨h, _⟩ | ⟨g, cap, cur, hv, _⟩ <;> simp [*, Value.oneCell']
  | some ad =>
    have hnews := hnews ad rfl
    have hcn : ∀ (x : World) (old : Nat) (pre : List Value) (k : Nat), pre.length = k * e.sz → k ≤ grownCap w k old u → grownCap w k old u ≤ maxLen →
        (w.drew.alloc (.cells (pre.toArray ++ Builtin.zeroCells z.cells (grownCap w k old u - k)) u)).ownsRow 0 u e.sz (.slice (some ⟨w.heap.size, 0, none⟩) k (grownCap w k old u)) k pre := by
      intro x old pre k hp1 hp2 hp3
      refine ⟨hp1, .inr ⟨w.heap.size, _, _, rfl, Nat.zero_le _, heap_alloc_new w.drew _, hp2, hp3, ?_, ?_⟩⟩
      · simp only [Array.size_append, List.size_toArray, size_zeroCells, hzs, hp1, ← Nat.add_mul]
        congr 1; omega
      · simp only [Array.toList_append, List.toList_toArray]
        rw [← hp1]; exact List.take_left
    have hgl : ∀ (k : Nat) (old : Nat), k ≤ 140737488355328 → k ≤ grownCap w k old u ∧ grownCap w k old u ≤ maxLen := fun k old hk => ⟨grownCap_ge w k old u, grownCap_le_maxLen w k old u (by simp only [maxLen]; omega)⟩
    rcases hr.2 with ⟨rfl, rfl⟩ | ⟨g, cap, cur, rfl, _, hg, hnc, hcm, hcs, htk⟩
    · have hx : cs = [] := List.eq_nil_of_length_eq_zero (by simpa using hr.1)
      subst hx
      by_cases hm : m = 0
      · subst hm
        have hn : news = [] := List.eq_nil_of_length_eq_zero (by simpa using hl)
        subst hn
        refine ⟨.slice none 0 0, w, T, ?_, by simpa using hr, ⟨rfl, rfl, rfl, Nat.le_refl _, fun _ _ _ => rfl⟩, fun b h => .inl h, rfl⟩
        simp [Builtin.append_, run_underlying ht, Go.sizeOf, typeInfo, hi, Builtin.lenOf, Builtin.firstCells, loadCells, loadCellsFrom]
      · have hrun := run_append_nil (P := P) w t ty u inf z ht hi hz ad m c news (by rw [hl, hs]) hnews (by omega) (by omega) (by have hb := hlim; simp only [Nat.zero_add] at hb; omega)
        obtain ⟨g1, g2⟩ := hgl m 0 (by omega)
        refine ⟨_, _, u, hrun, by simpa using hcn w 0 news m hl g1 g2, ⟨rfl, rfl, rfl, by simp, fun k hk _ => heap_alloc_old w.drew _ k hk⟩, fun b h => .inr ?_, rfl⟩
        injection h with h; subst h; exact Nat.le_refl _
    · by_cases hroom : n + m ≤ cap
      · have hfit : n * e.sz + news.length ≤ cur.size := by rw [hl, hcs, ← Nat.add_mul]; exact Nat.mul_le_mul_right _ hroom
        have hrun := app_room (P := P) (ty := ty) ht hi hg (n := n) (cap := cap) (m := m) (c := c) (by rw [hl, hs]) hnews h1 hroom (by rw [hs]; exact hfit)
        rw [hs] at hrun
        have hcl : cur.toList.length = cap * e.sz := by simpa using hcs
        refine ⟨_, _, T, hrun, ⟨by rw [List.length_append, hr.1, hl, Nat.add_mul], .inr ⟨g, cap, _, rfl, Nat.zero_le _, setRow_heap w g cur _ T _ hg, hroom, hcm, ?_, ?_⟩⟩, ⟨rfl, rfl, rfl, by simp, fun k _ hk => setRow_other w g k _ (fun e => hk (by simp [blk, e]))⟩, fun b h => .inl h, rfl⟩
        · rw [List.size_toArray, splice_length (by omega)]; exact hcl
        · rw [List.toList_toArray]
          have htl : (cur.toList.take (n * e.sz)).length = n * e.sz := by rw [htk]; exact hr.1
          unfold splice
          rw [htk]
          rw [show (n + m) * e.sz = (cs ++ news).length from by rw [List.length_append, hr.1, hl, Nat.add_mul]]
          exact List.take_left
      · have holds : ∀ j u, cs[j]? = some u → w.cell? ((⟨g, 0, none⟩ : Addr).add j) = some u := hr.cells (g := g) rfl
        have hrun := run_append_grow (P := P) w t ty u inf z ht hi hz ⟨g, 0, none⟩ n cap cs (by rw [hr.1, hs]) holds ad m c news (by rw [hl, hs]) hnews (by omega) (by omega) (growslice_fits (by omega) hlim)
        obtain ⟨g1, g2⟩ := hgl (n + m) cap hbig
        refine ⟨_, _, u, hrun, ?_, ⟨rfl, rfl, rfl, by simp, fun k hk _ => heap_alloc_old w.drew _ k hk⟩, fun b h => .inr ?_, rfl⟩
        · have := hcn w cap (cs ++ news) (n + m) (by rw [List.length_append, hr.1, hl, Nat.add_mul]) g1 g2
          simpa using this
        · injection h with h; subst h; exact Nat.le_refl _

/-- An append of data. -/
theorem data_src {ok : Nat → Prop} {e : Ty} {ys : List e.I} {vx : Value} (h : VV ok w (.sl e) ys vx) : ∃ A c news, vx = .slice A ys.length c ∧ news.length = ys.length * e.sz ∧ (A = none → ys.length = 0) ∧ (∀ ad, A = some ad → ∀ j u, news[j]? = some u → w.cell? (ad.add j) = some u) ∧ (∀ u ∈ news, u.oneCell' = true) ∧ ElemsD ok w e ys news := by
  obtain ⟨cs, ⟨A, c, rfl, hl, hr⟩, rfl⟩ := h
  cases A with
  | none =>
    have h0 : ys.length = 0 := by
      rcases Nat.eq_zero_or_pos ys.length with h | h
      · exact h
      · obtain ⟨ad, _, he, _⟩ := hr 0 h; cases he
    exact ⟨none, c, [], rfl, by simp [h0], fun _ => h0, by simp, by simp, fun i hi => by omega⟩
  | some ad =>
    obtain ⟨news, h1, h2, h3, h4⟩ := rows_all hr
    exact ⟨some ad, c, news, rfl, h1, by simp, fun ad' he => by injection he with he; subst he; exact h2, h3, h4⟩
end
end Pm
end
section
/- Append, cut, copy, make: as operations. -/
namespace Pm
open Go Go.RowKit

section
variable {P : Program} {X : Ctx} {φ : Nat → Value} {tm : List S} {H : Hp} {a : Act} {w : World}

theorem own_rows {ok : Nat → Prop} {e : Ty} {xs : List e.I} {v : Value} {T : TypeId} {cs : List Value} (hr : w.ownsRow 0 T e.sz v xs.length cs) (he : ElemsD ok w e xs cs) (hb : ∀ b, blk v = some b → ok b) : ∃ A c, v = .slice A xs.length c ∧ (xs.length ≤ c ∧ (A = none → c = 0)) ∧ RowsD ok w e A xs := by
  rcases hr.2 with ⟨h1, h2⟩ | ⟨g, cap, cur, hv, _, hg, hc, _, _, ht⟩
  · exact ⟨none, 0, by rw [h1, h2], ⟨by omega, fun _ => rfl⟩, fun i hi => by omega⟩
  · refine ⟨some ⟨g, 0, none⟩, cap, hv, ⟨hc, fun h => by cases h⟩, fun i hi => ⟨⟨g, 0, none⟩, (cs.drop (i * e.sz)).take e.sz, rfl, he i hi, fun j v hj => ?_, hb g (by rw [hv]; rfl)⟩⟩
    apply hr.cells (g := g) (by rw [hv]; rfl)
    rw [List.getElem?_take] at hj
    split at hj
    · rw [List.getElem?_drop] at hj; exact hj
    · cases hj
theorem own_base {e : TypeId} {sz : Nat} {v : Value} {n : Nat} {cs : List Value} {b0 b1 : Nat} (h : w.ownsRow b0 e sz v n cs) (hb : ∀ b, blk v = some b → b1 ≤ b) : w.ownsRow b1 e sz v n cs := by
  refine ⟨h.1, ?_⟩
  rcases h.2 with h | ⟨g, cap, cur, hv, _, rest⟩
  · exact .inl h
  · exact .inr ⟨g, cap, cur, hv, hb g (by rw [hv]; rfl), rest⟩
theorem own_len {base : Nat} {e : TypeId} {sz : Nat} {v : Value} {n m : Nat} {cs : List Value} (h : w.ownsRow base e sz v n cs) (e' : n = m) : w.ownsRow base e sz v m cs := e' ▸ h
theorem Fz.none {H H' : Hp} (h : Fz H H') {n : Nat} (hn : H n = none) : H' n = none := by
  rcases h n with e | ⟨_, _, h1, _⟩
  · rw [e]; exact hn
  · rw [hn] at h1; cases h1

theorem app_den (R : Rel X φ tm H a w) {e : Ty} {t ty : TypeId} (hsl : slB P e t = true) {lim nm : Nat} (hlim : ∀ u inf, P.underlying t = some (.slice u) → P.info? u = some inf → lim * inf.bytes ≤ 140737488355328) {s x : D} {vs vx : Value}
    (hs : DDen X.ρ (okB X φ H w.heap.size) φ H w s vs) (hx : DDen X.ρ (okB X φ H w.heap.size) φ H w x vx) {c : Chk} {sr : S} {H' : Hp} (hc : core H (.app nm e lim) [.d s, .d x] = some (c, sr, H')) (hp : c.p) :
    ∃ v' w' φ', (Builtin.append_ #[t, t] ty #[vs, vx]).run P w = .ok v' w' ∧ Rel X φ' tm H' a w' ∧ SDen X.ρ (okB X φ' H' w'.heap.size) φ' H' w' sr v' ∧ Fr X w w' := by
  obtain ⟨u, hu, hk, hpos⟩ := slB_spec hsl
  simp only [core, appO] at hc
  split at hc
  · rename_i ys hys
    have hvx := snap_den R hx hys
    have R1 := R.fz (frz_fz H x)
    obtain ⟨A, cx, news, rfl, hnl, hA, hnews, hone, hel⟩ := data_src hvx
    have hl2 : ∀ {n : Nat}, n + ys.length < lim → ∀ inf, P.info? u = some inf → (n + ys.length) * inf.bytes ≤ 140737488355328 := fun h inf hi => Nat.le_trans (Nat.mul_le_mul_right _ (by omega)) (hlim u inf hu hi)
    unfold appI at hc
    cases s with
    | nil =>
      simp only at hc
      split at hc
      · rename_i hnm
        simp only [Option.some.injEq, Prod.mk.injEq] at hc
        obtain ⟨rfl, rfl, rfl⟩ := hc
        have hlt : 0 + ys.length < lim := by simpa using hp
        have hvs : vs = .slice none 0 0 := hs
        subst hvs
        obtain ⟨v', w', T', h1, h2, h3, h4, h5⟩ := run_app (P := P) (ty := ty) hu hk hpos (World.ownsRow_nil w 0 u e.sz) hnl hA hnews hone (hl2 hlt)
        simp only [Nat.zero_add, List.nil_append] at h2
        have hb : ∀ b, blk v' = some b → w.heap.size ≤ b := fun b h => by rcases h4 b h with h | h; cases h; exact h
        obtain ⟨r1, r2, r3⟩ := R1.newArr (w' := w') ((frz_fz H x).none hnm) (xs := ys) h3 (own_base h2 hb) hel
        exact ⟨v', w', _, h1, r1, r2, r3⟩
      · cases hc
    | ref n =>
      simp only at hc
      split at hc
      · rename_i e' xs hn hnm
        split at hc
        · rename_i xs2 hcast
          obtain ⟨ee, hxx⟩ := castT_some hcast
          injection ee with ee
          subst ee
          simp only at hxx
          subst hxx
          simp only [Option.some.injEq, Prod.mk.injEq] at hc
          obtain ⟨rfl, rfl, rfl⟩ := hc
          have hlt : xs.length + ys.length < lim := hp
          obtain ⟨rfl, _⟩ := hs
          obtain ⟨T, cs, hr, he⟩ := R1.obs n _ hn
          obtain ⟨v', w', T', h1, h2, h3, h4, h5⟩ := run_app (P := P) (ty := ty) hu hk hpos hr hnl hA hnews hone (hl2 hlt)
          refine ⟨v', w', setφ φ nm v', h1, R1.go hn ((frz_fz H x).none hnm) h3 h4 rfl (fun hok => ⟨T', cs ++ news, ?_, ?_⟩), ⟨(setφ_same _ _ _).symm, h5, _, upd_same _ _ _, rfl⟩, Fr.grown R.bnd h3 (fun k hk' => .inl ?_)⟩
          · rw [setφ_same]; exact own_len h2 (List.length_append).symm
          · have hmv : ∀ b, okB X φ (frz H x) w.heap.size b → w'.heap[b]? = w.heap[b]? := fun b hb => h3.block b hb.2.1 (fun ee => hb.2.2 n _ hn rfl ee.symm)
            exact ElemsD.append hr.1 (fun i hi => (he i hi).mono hok hmv) (fun i hi => (hel i hi).mono hok hmv)
          · have := R1.mine n _ k hn rfl hk'
            simpa [Ob.isIo] using this
        · cases hc
      · cases hc
    | fsl e' xs =>
      simp only at hc
      split at hc
      · rename_i xs2 hcast
        obtain ⟨ee, hxx⟩ := castT_some hcast
        injection ee with ee
        subst ee
        simp only at hxx
        subst hxx
        simp only [Option.some.injEq, Prod.mk.injEq] at hc
        obtain ⟨rfl, rfl, rfl⟩ := hc
        have hlt : xs.length + ys.length < lim := hp
        obtain ⟨As, rfl, hrows⟩ := hs
        have hrows := hrows.mono (fun _ => (frz_fz H x).ok) (fun _ _ => rfl)
        obtain ⟨inf, z, hi, hsz, hz, hzb, hby, hzs⟩ := info_of hk
        have hlm := hl2 hlt inf hi
        have hbig : xs.length + ys.length ≤ 140737488355328 := Nat.le_trans (Nat.le_mul_of_pos_right _ hby) hlm
        by_cases hm : ys.length = 0
        · have hys0 : ys = [] := List.eq_nil_of_length_eq_zero hm
          subst hys0
          refine ⟨.slice As xs.length xs.length, w, φ, ?_, R1, ⟨[.slice As xs.length xs.length], ⟨As, xs.length, by simp, ⟨by simp, rows_nil hrows⟩, ?_⟩, rfl⟩, Fr.refl X w⟩
          · cases A <;> cases As <;> simp [Builtin.append_, run_underlying hu, Go.sizeOf, typeInfo, hi, Builtin.lenOf, Builtin.firstCells, storeCells, loadCells, loadCellsFrom]
          · show RowsD _ w e' As (xs ++ [])
            rw [List.append_nil]; exact hrows
        · have hAs : ∃ ad, A = some ad := by
            cases A with
            | none => exact absurd (hA rfl) hm
            | some ad => exact ⟨ad, rfl⟩
          obtain ⟨ad, rfl⟩ := hAs
          have key : ∃ v' w' T' olds, (Builtin.append_ #[t, t] ty #[.slice As xs.length xs.length, .slice (some ad) ys.length cx]).run P w = .ok v' w' ∧ w'.ownsRow 0 T' e'.sz v' (xs.length + ys.length) (olds ++ news) ∧ w.grownBy w' none ∧ olds.length = xs.length * e'.sz ∧ ElemsD (okB X φ (frz H x) w.heap.size) w e' xs olds ∧ ∀ b, blk v' = some b → w.heap.size ≤ b := by
            cases As with
            | none =>
              have h0 : xs.length = 0 := by
                rcases Nat.eq_zero_or_pos xs.length with h | h
                · exact h
                · obtain ⟨ad, _, he, _⟩ := hrows 0 h; cases he
              have hx0 : xs = [] := List.eq_nil_of_length_eq_zero h0
              subst hx0
              obtain ⟨v', w', T', h1, h2, h3, h4, h5⟩ := run_app (P := P) (ty := ty) hu hk hpos (World.ownsRow_nil w 0 u e'.sz) hnl hA hnews hone (fun inf hi' => by simpa using hl2 hlt inf hi')
              exact ⟨v', w', T', [], h1, by simpa using h2, h3, by simp, fun i hi => absurd hi (by simp), fun b h => by rcases h4 b h with h | h; cases h; exact h⟩
            | some sd =>
              obtain ⟨olds, o1, o2, o3, o4⟩ := rows_all hrows
              obtain ⟨v', w', h1, h2, h3⟩ := run_append_arg_grows (P := P) w t ty u inf z e'.sz inf.bytes hu hi hz hsz rfl hzs hpos sd xs.length xs.length olds o1 o2 ad ys.length cx news hnl (hnews ad rfl) (by omega) (by simp only [maxLen]; omega) hlm
              exact ⟨v', w', u, olds, h1, own_base h2 (fun _ _ => Nat.zero_le _), h3, o1, o4, fun b hb => by
                rcases h2.2 with ⟨h, _⟩ | ⟨g, cap, cur, hv, hgb, _⟩
                · rw [h] at hb; cases hb
                · rw [hv] at hb; injection hb with hb; subst hb; exact hgb⟩
          obtain ⟨v', w', T', olds, h1, h2, h3, h4, h5, h6⟩ := key
          have R2 := R1.grow h3
          have hok : ∀ b, okB X φ (frz H x) w.heap.size b → okB X φ (frz H x) w'.heap.size b := fun b h => ⟨h.1, Nat.lt_of_lt_of_le h.2.1 h3.size, h.2.2⟩
          have hmv : ∀ b, okB X φ (frz H x) w.heap.size b → w'.heap[b]? = w.heap[b]? := fun b hb => h3.block b hb.2.1 (by simp)
          have h2' : w'.ownsRow 0 T' e'.sz v' (xs ++ ys).length (olds ++ news) := own_len h2 (List.length_append).symm
          obtain ⟨A', c', e1, e2, e3⟩ := own_rows h2' (ElemsD.append h4 (fun i hi => (h5 i hi).mono hok hmv) (fun i hi => (hel i hi).mono hok hmv)) (fun b hb => by
            refine ⟨.inr (Nat.le_trans R.bnd (h6 b hb)), ?_, fun m o hm hl hbm => ?_⟩
            · have hown : v'.ownBlock = some b := by
                cases v' with
                | slice A n c => cases A <;> simp_all [blk, Value.ownBlock]
                | _ => rcases h2.2 with ⟨h, _⟩ | ⟨g, cap, cur, hv, _⟩ <;> simp_all
              exact (h2.lt b hown).2
            · have := blk_lt R1 hm (by cases o <;> simp_all [Ob.live, Ob.isDead]) hbm
              have := h6 b hb
              omega)
          exact ⟨v', w', φ, h1, R2, ⟨[v'], ⟨A', c', by rw [e1], e2, e3⟩, rfl⟩, Fr.grown R.bnd h3 (by simp)⟩
      · cases hc
    | _ => cases hc
  · cases hc

/-- A cut. -/
theorem run_cut {e : Ty} {t : TypeId} (hsl : slB P e t = true) {A : Option Addr} {n c : Nat} (hn : n ≤ c) (kl kh km : IntKind) (lo hi mx : Option Int) (hk : (cutOk n lo hi mx).p) :
    (Instr.sliceAt t (.slice A n c) (lo.map (.int kl)) (hi.map (.int kh)) (mx.map (.int km))).run P w = .ok (sliced A (lo.getD 0).toNat (hi.getD (n : Int)).toNat (mx.getD (c : Int)).toNat e.sz) w := by
  obtain ⟨u, hu, hku, hpos⟩ := slB_spec hsl
  obtain ⟨inf, z, hi', hsz, _⟩ := info_of hku
  have hel : P.elem t = u := by simp [Program.elem, hu]
  have hu' : P.underlying t = some (.slice (P.elem t)) := by rw [hel]; exact hu
  rw [run_sliceAt_slice w t _ _ _ _ hu']
  have hs : (Go.sizeOf (P.elem t)).run P w = .ok e.sz w := by rw [hel]; simp [Go.sizeOf, typeInfo, hi', hsz]
  cases lo with
  | none =>
    cases hi with
    | none =>
      cases mx with
      | none => simp only [Option.map_none]; rw [run_slice_all w t A n c hu']; simp [hs]
      | some m => exact hk.elim
    | some h =>
      cases mx with
      | none => obtain ⟨h0, h1⟩ := hk; simp only [Option.map_none, Option.map_some]; rw [run_slice_h w t A n c hu' kh h h0 (by omega)]; simp [hs]
      | some m => obtain ⟨h0, h1, h2⟩ := hk; simp only [Option.map_none, Option.map_some]; rw [run_slice_hm w t A n c hu' kh km h m h0 (by omega) (by omega)]; simp [hs]
  | some l =>
    cases hi with
    | none =>
      cases mx with
      | none => obtain ⟨h0, h1⟩ := hk; simp only [Option.map_none, Option.map_some]; rw [run_slice_l w t A n c hu' kl l h0 (by omega)]; simp [hs]
      | some m => exact hk.elim
    | some h =>
      cases mx with
      | none => obtain ⟨h0, h1, h2⟩ := hk; simp only [Option.map_none, Option.map_some]; rw [run_slice_lh w t A n c hu' kl kh l h h0 h1 (by omega)]; simp [hs]
      | some m => obtain ⟨h0, h1, h2, h3⟩ := hk; simp only [Option.map_some]; rw [run_slice_lhm w t A n c hu' kl kh km l h m h0 h1 (by omega) (by omega)]; simp [hs]
theorem cut_den {ok : Nat → Prop} {e : Ty} {A : Option Addr} {xs : List e.I} {lo hi mx : Option Int} {m : Nat} (h : RowsD ok w e A xs) (hk : (cutOk xs.length lo hi mx).p) (hm : xs.length ≤ m ∨ m = (hi.getD (xs.length : Int)).toNat) (hA : A = none → m = 0) :
    ∃ A', sliced A (lo.getD 0).toNat (hi.getD (xs.length : Int)).toNat m e.sz = .slice A' (cut xs lo hi).length (m - (lo.getD 0).toNat) ∧ ((cut xs lo hi).length ≤ m - (lo.getD 0).toNat ∧ (A' = none → m - (lo.getD 0).toNat = 0)) ∧ RowsD ok w e A' (cut xs lo hi) := by
  have hlen : (cut xs lo hi).length = (hi.getD (xs.length : Int)).toNat - (lo.getD 0).toNat := by
    cases lo <;> cases hi <;> cases mx <;> simp [cut, cutOk] at hk ⊢ <;> omega
  have hle : (lo.getD 0).toNat ≤ (hi.getD (xs.length : Int)).toNat ∧ (hi.getD (xs.length : Int)).toNat ≤ xs.length := by
    cases lo <;> cases hi <;> cases mx <;> simp [cutOk] at hk ⊢ <;> omega
  have hrow : RowsD ok w e (A.map (·.add ((lo.getD 0).toNat * e.sz))) (cut xs lo hi) := by
    cases lo with
    | none =>
      have : A.map (·.add ((none : Option Int).getD 0 |>.toNat |> (· * e.sz))) = A := by cases A <;> simp [add0]
      simp only at this
      rw [this]
      cases hi with
      | none => exact h
      | some hh => exact h.take _
    | some l =>
      cases hi with
      | none => exact h.drop _
      | some hh => exact (h.take _).drop _
  unfold sliced
  by_cases hml : m = (lo.getD 0).toNat
  · refine ⟨A, by rw [if_pos hml, hlen], ⟨by omega, fun _ => by omega⟩, RowsD.nil (by omega)⟩
  · exact ⟨_, by rw [if_neg hml, hlen], ⟨by omega, fun h => by cases A with | none => rw [hA rfl]; omega | some => cases h⟩, hrow⟩
end
end Pm
end
section
/- Cut, copy, make: as operations. -/
namespace Pm
open Go Go.RowKit

section
variable {P : Program} {X : Ctx} {φ : Nat → Value} {tm : List S} {H : Hp} {a : Act} {w : World}

theorem slice_den (R : Rel X φ tm H a w) {e : Ty} {t : TypeId} (hsl : slB P e t = true) {nm : Nat} {m : SlM} {d : D} {v : Value} (hd : DDen X.ρ (okB X φ H w.heap.size) φ H w d v) (kl kh km : IntKind) {lo hi mx : Option Int}
    {c : Chk} {sr : S} {H' : Hp} (hc : sliceI H nm m e d lo hi mx = some (c, sr, H')) (hp : c.p) :
    ∃ v' φ', (Instr.sliceAt t v (lo.map (.int kl)) (hi.map (.int kh)) (mx.map (.int km))).run P w = .ok v' w ∧ Rel X φ' tm H' a w ∧ SDen X.ρ (okB X φ' H' w.heap.size) φ' H' w sr v' := by
  cases m with
  | snap =>
    have data : (snap H (.sl e) d).map (fun xs => cutD H e d xs lo hi mx) = some (c, sr, H') →
        ∃ v' φ', (Instr.sliceAt t v (lo.map (.int kl)) (hi.map (.int kh)) (mx.map (.int km))).run P w = .ok v' w ∧ Rel X φ' tm H' a w ∧ SDen X.ρ (okB X φ' H' w.heap.size) φ' H' w sr v' := by
      intro he
      obtain ⟨xs, hs, he⟩ := Option.map_eq_some_iff.1 he
      obtain ⟨cs, ⟨A, cc, rfl, hl, hr⟩, rfl⟩ := snap_den R hd hs
      have R1 := R.fz (frz_fz H d)
      cases mx with
      | none =>
        simp only [cutD, Prod.mk.injEq] at he
        obtain ⟨rfl, rfl, rfl⟩ := he
        have hrun := run_cut (P := P) (w := w) hsl (A := A) hl.1 kl kh km lo hi none hp
        obtain ⟨A', e1, e2, e3⟩ := cut_den (m := cc) hr hp (.inl hl.1) hl.2
        refine ⟨_, φ, hrun, R1, [.slice A' (cut xs lo hi).length (cc - (lo.getD 0).toNat)], ⟨A', _, rfl, e2, e3⟩, ?_⟩
        simpa [packV, Ty.agg] using e1
      | some m =>
        simp only [cutD, Prod.mk.injEq] at he
        obtain ⟨rfl, rfl, rfl⟩ := he
        have hrun := run_cut (P := P) (w := w) hsl (A := A) hl.1 kl kh km lo hi (some m) hp
        have hmh : m.toNat = (hi.getD (xs.length : Int)).toNat := by
          cases lo <;> cases hi <;> simp [cutOk] at hp ⊢ <;> omega
        obtain ⟨A', e1, e2, e3⟩ := cut_den (m := m.toNat) hr hp (.inr hmh) (fun h0 => by have := rows_nil hr h0; cases lo <;> cases hi <;> simp [cutOk] at hp ⊢ <;> omega)
        refine ⟨_, φ, hrun, R1, A', ?_, e3⟩
        have hlen : m.toNat - (lo.getD 0).toNat = (cut xs lo hi).length := by
          cases lo <;> cases hi <;> simp [cutOk, cut] at hp ⊢ <;> omega
        simp only [Option.getD_some]
        rw [e1, hlen]
    cases d with
    | nil =>
      simp only [sliceI, Option.some.injEq, Prod.mk.injEq] at hc
      obtain ⟨rfl, rfl, rfl⟩ := hc
      obtain ⟨h1, h2, h3, h4⟩ := hp
      obtain rfl : v = .slice none 0 0 := hd
      have hcut : (cutOk 0 lo hi mx).p := by
        cases lo <;> cases hi <;> cases mx <;> simp [cutOk] at h1 h2 h3 h4 ⊢ <;> omega
      have hrun := run_cut (P := P) (w := w) hsl (A := none) (n := 0) (c := 0) (Nat.le_refl _) kl kh km lo hi mx hcut
      refine ⟨.slice none 0 0, φ, ?_, R, rfl⟩
      rw [hrun]
      cases lo <;> cases hi <;> cases mx <;> simp [sliced] at h1 h2 h3 h4 ⊢ <;> simp [*]
    | val t' x => exact data hc
    | fsl e' xs => exact data hc
    | nn e' xs => exact data hc
    | ref n => exact data hc
    | _ => simp [sliceI, snap] at hc
  | trunc =>
    cases d <;> try (simp [sliceI] at hc; done)
    rename_i n
    cases lo <;> try (simp [sliceI] at hc; done)
    cases hi <;> try (simp [sliceI] at hc; done)
    rename_i h
    cases mx <;> try (simp [sliceI] at hc; done)
    simp only [sliceI] at hc
    unfold truncAt at hc
    split at hc
    · cases hc
    rename_i hnm
    split at hc <;> first | cases hc | skip
    rename_i e' xs hn
    cases hb : Ty.beq e' e with
    | false => rw [hb] at hc; cases hc
    | true =>
      rw [hb] at hc
      obtain rfl := Ty.beq_eq _ _ hb
      simp only [cond_true, Option.some.injEq, Prod.mk.injEq] at hc
      obtain ⟨rfl, rfl, rfl⟩ := hc
      obtain ⟨h0, h1⟩ := hp
      obtain ⟨rfl, hone, _⟩ := hd
      obtain ⟨T, cs, hr, he⟩ := R.obs n _ hn
      have key : ∃ A c, φ n = .slice A xs.length c ∧ xs.length ≤ c ∧ w.ownsRow 0 T e'.sz (.slice A h.toNat c) h.toNat (cs.take (h.toNat * e'.sz)) := by
        rcases hr.2 with ⟨h1', h2'⟩ | ⟨g, cap, cur, hv, hz, hg, hcl, hcm, hcs, htk⟩
        · have hh : h.toNat = 0 := by omega
          refine ⟨none, 0, by rw [h1', h2'], by omega, ?_⟩
          rw [hh]; exact ⟨by simp, .inl ⟨rfl, rfl⟩⟩
        · have hmm := Nat.mul_le_mul_right e'.sz (show h.toNat ≤ xs.length by omega)
          refine ⟨_, _, hv, hcl, ?_, .inr ⟨g, cap, cur, rfl, hz, hg, by omega, hcm, hcs, ?_⟩⟩
          · rw [List.length_take, hr.1]; omega
          · rw [← htk, List.take_take]; congr 1
            omega
      obtain ⟨A, cc, e1, e2, e3⟩ := key
      have hrun := run_cut (P := P) (w := w) hsl (A := A) e2 kl kh km none (some h) none (by exact ⟨h0, h1⟩)
      have hsl' : sliced A 0 h.toNat cc e'.sz = .slice A h.toNat cc := by
        unfold sliced
        congr 1
        split
        · rfl
        · cases A <;> simp [add0]
      simp only [Option.getD_none, Option.getD_some, Int.toNat_zero, Int.toNat_natCast] at hrun
      rw [hsl'] at hrun
      refine ⟨_, setφ φ nm (.slice A h.toNat cc), by rw [e1]; exact hrun, R.go hn hnm (w' := w) ⟨rfl, rfl, rfl, Nat.le_refl _, fun _ _ _ => rfl⟩ (fun b hb => .inl (by rw [e1]; cases A <;> exact hb)) rfl (fun hok => ⟨T, cs.take (h.toNat * e'.sz), ?_, ?_⟩), (setφ_same _ _ _).symm, rfl, _, upd_same _ _ _, rfl⟩
      · rw [setφ_same]; exact own_len e3 (by simp; omega)
      · exact fun i hi => ((he.take h.toNat) i hi).mono hok (fun _ _ => rfl)
  | view =>
    cases d <;> try (simp [sliceI] at hc; done)
    rename_i n
    cases lo <;> try (simp [sliceI] at hc; done)
    rename_i l
    cases hi <;> try (simp [sliceI] at hc; done)
    cases mx <;> try (simp [sliceI] at hc; done)
    simp only [sliceI] at hc
    unfold viewOf at hc
    split at hc <;> first | cases hc | skip
    rename_i e' xs hn
    cases hb : Ty.beq e' e with
    | false => rw [hb] at hc; cases hc
    | true =>
      rw [hb] at hc
      obtain rfl := Ty.beq_eq _ _ hb
      simp only [cond_true, Option.some.injEq, Prod.mk.injEq] at hc
      obtain ⟨rfl, rfl, rfl⟩ := hc
      obtain ⟨h0, h1⟩ := hp
      obtain ⟨rfl, hone, _⟩ := hd
      obtain ⟨T, cs, hr, he⟩ := R.obs n _ hn
      have key : ∃ A c, φ n = .slice A xs.length c ∧ xs.length ≤ c := by
        rcases hr.2 with ⟨h1', h2'⟩ | ⟨g, cap, cur, hv, hz, hg, hcl, hcm, hcs, htk⟩
        · exact ⟨none, 0, by rw [h1', h2'], by omega⟩
        · exact ⟨_, _, hv, hcl⟩
      obtain ⟨A, cc, e1, e2⟩ := key
      have hrun := run_cut (P := P) (w := w) hsl (A := A) e2 kl kh km (some l) none none (by exact ⟨h0, h1⟩)
      simp only [Option.getD_none, Option.getD_some, Int.toNat_natCast] at hrun
      refine ⟨_, φ, by rw [e1]; exact hrun, R, _, hn, by omega, ?_⟩
      rw [e1]; rfl

/-- A copy. -/
theorem copyI_den (R : Rel X φ tm H a w) {e : Ty} {t t2 ty : TypeId} (hsl : slB P e t = true) {d x : D} {vd vx : Value}
    (hd : DDen X.ρ (okB X φ H w.heap.size) φ H w d vd) (hx : DDen X.ρ (okB X φ H w.heap.size) φ H w x vx) {c : Chk} {sr : S} {H' : Hp} (hc : core H (.copy e) [.d d, .d x] = some (c, sr, H')) :
    ∃ v' w', (Builtin.copy_ #[t, t2] ty #[vd, vx]).run P w = .ok v' w' ∧ Rel X φ tm H' a w' ∧ SDen X.ρ (okB X φ H' w'.heap.size) φ H' w' sr v' ∧ Fr X w w' := by
  obtain ⟨u, hu, hku, hpos⟩ := slB_spec hsl
  obtain ⟨inf, z, hi, hsz, hz, hzb, hby, hzs⟩ := info_of hku
  simp only [core, copyO] at hc
  split at hc
  · rename_i ys hys
    obtain ⟨Ax, cx, news, rfl, hnl, hA, hnews, hone, hel⟩ := data_src (snap_den R hx hys)
    have R1 := R.fz (frz_fz H x)
    have go : ∀ (n l : Nat) (xs : List e.I), frz H x n = some (.arr e xs .lv) → l ≤ xs.length → vd = viewV (φ n) l e.sz → sr = .d (.val (.int .i64) ((min ys.length (xs.length - l) : Nat) : Int)) → H' = upd (frz H x) n (.arr e (copyTo xs l ys) .lv) →
        ∃ v' w', (Builtin.copy_ #[t, t2] ty #[vd, .slice Ax ys.length cx]).run P w = .ok v' w' ∧ Rel X φ tm H' a w' ∧ SDen X.ρ (okB X φ H' w'.heap.size) φ H' w' sr v' ∧ Fr X w w' := by
      intro n l xs hn hl hvd hsr hH
      subst hsr
      obtain ⟨T, cs, hr, he⟩ := R1.obs n _ hn
      have hsame : ∀ {A : Option Addr} {c : Nat}, vd = .slice A (xs.length - l) c → min ys.length (xs.length - l) = 0 → ∃ v' w', (Builtin.copy_ #[t, t2] ty #[vd, .slice Ax ys.length cx]).run P w = .ok v' w' ∧ Rel X φ tm H' a w' ∧ SDen X.ρ (okB X φ H' w'.heap.size) φ H' w' (.d (.val (.int .i64) ((min ys.length (xs.length - l) : Nat) : Int))) v' ∧ Fr X w w' := by
        intro A c hv h0
        have hct : copyTo xs l ys = xs := by simp [copyTo, h0]
        have hup : H' = frz H x := by
          rw [hH, hct]; funext m
          by_cases e' : m = n
          · subst e'; rw [upd_same, hn]
          · exact upd_ne e'
        refine ⟨goInt 0, w, ?_, hup ▸ R1, ⟨[_], rfl, by rw [h0]; rfl⟩, Fr.refl X w⟩
        have h0' : Nat.min ys.length (xs.length - l) = 0 := h0
        subst hv
        cases Ax <;> cases A <;> simp [Builtin.copy_, run_underlying hu, Builtin.lenOf, Go.sizeOf, typeInfo, hi, Builtin.firstCells, h0', loadCells, loadCellsFrom, storeCells]
      rcases hr.2 with ⟨h1, h2⟩ | ⟨g, cap, cur, hv, hz0, hg, hcl, hcm, hcs, htk⟩
      · refine hsame (A := none) (c := 0 - l) ?_ (by omega)
        rw [hvd, h1]; simp [viewV, h2]
      · by_cases h0 : min ys.length (xs.length - l) = 0
        · refine hsame (A := if cap = l then some ⟨g, 0, none⟩ else (some (⟨g, 0, none⟩ : Addr)).map (·.add (l * e.sz))) (c := cap - l) ?_ h0
          rw [hvd, hv]; rfl
        · generalize hk : min ys.length (xs.length - l) = k at *
          have hkl : l + k ≤ xs.length := by omega
          have hky : k ≤ ys.length := by omega
          have hvd' : vd = .slice (some ⟨g, l * e.sz, none⟩) (xs.length - l) (cap - l) := by
            rw [hvd, hv]
            simp only [viewV]
            rw [if_neg (by omega), Option.map_some, add_lit, Nat.zero_add]
          have m1 := Nat.mul_le_mul_right e.sz hkl
          have m2 := Nat.mul_le_mul_right e.sz hky
          have m3 := Nat.mul_le_mul_right e.sz hcl
          rw [Nat.add_mul] at m1
          have hnl' : (news.take (k * e.sz)).length = k * e.sz := by rw [List.length_take]; omega
          have hcl2 : cur.toList.length = cap * e.sz := by simpa using hcs
          have hAx : ∃ ad, Ax = some ad := by
            cases Ax with
            | none => have := hA rfl; omega
            | some ad => exact ⟨ad, rfl⟩
          obtain ⟨ad, rfl⟩ := hAx
          have hfc := run_firstCells_some (P := P) w e.sz k ad ys.length cx (news.take (k * e.sz)) hnl' (fun j v hj => by
            rw [List.getElem?_take] at hj
            split at hj
            · exact hnews ad rfl j v hj
            · cases hj)
          have hst := run_storeCells_at P g (l * e.sz) T (news.take (k * e.sz)) 0 cur w hg (by rw [hnl']; omega) (fun u hu => hone u (List.mem_of_mem_take hu))
          simp only [Nat.add_zero] at hst
          have hmin : Nat.min ys.length (xs.length - l) = k := hk
          have hlen' : (copyTo xs l ys).length = xs.length := by simp [copyTo, hk]; omega
          have hct : copyTo xs l ys = xs.take l ++ ys.take k ++ xs.drop (l + k) := by simp [copyTo, hk]
          have hsp : splice cs (l * e.sz) (news.take (k * e.sz)) = cs.take (l * e.sz) ++ news.take (k * e.sz) ++ cs.drop ((l + k) * e.sz) := by
            unfold splice; rw [hnl', Nat.add_mul]
          refine ⟨goInt k, w.setRow g (splice cur.toList (l * e.sz) (news.take (k * e.sz))).toArray, ?_, ?_, ⟨[_], rfl, rfl⟩, ⟨rfl, rfl, rfl, by simp, fun b hb hwr => setRow_other w g b _ ?_⟩⟩
          · subst hvd'
            simp [Builtin.copy_, run_underlying hu, Builtin.lenOf, Go.sizeOf, typeInfo, hi, hmin, hsz, hfc, hst, splice]
          · rw [hH]
            refine R1.turn hn rfl (.inr ⟨_, .lv, rfl, hlen'⟩) rfl rfl (by simp) (fun b _ hb => setRow_other w g b _ (fun e' => hb (by rw [hv, e']; rfl))) (fun hok => ⟨T, splice cs (l * e.sz) (news.take (k * e.sz)), ⟨?_, .inr ⟨g, cap, _, ?_, hz0, setRow_heap w g cur _ T _ hg, ?_, hcm, ?_, ?_⟩⟩, ?_⟩)
            · rw [splice_length (by rw [hnl', hr.1]; omega), hr.1, hlen']
            · rw [hv, hlen']
            · rw [hlen']; exact hcl
            · rw [List.size_toArray, splice_length (by rw [hnl']; omega)]; exact hcl2
            · rw [hlen', List.toList_toArray, splice_take (by rw [hnl']; omega) (by omega), htk]
            · have hE : ElemsD (okB X φ (frz H x) w.heap.size) w e (xs.take l ++ ys.take k ++ xs.drop (l + k)) (cs.take (l * e.sz) ++ news.take (k * e.sz) ++ cs.drop ((l + k) * e.sz)) := by
                have c1 : (cs.take (l * e.sz)).length = (xs.take l).length * e.sz := by
                  have := hr.1
                  rw [List.length_take, List.length_take, Nat.min_eq_left (by omega), Nat.min_eq_left hl]
                have c2 : (news.take (k * e.sz)).length = (ys.take k).length * e.sz := by rw [hnl', List.length_take, Nat.min_eq_left hky]
                refine ElemsD.append ?_ (ElemsD.append c1 (he.take l) (hel.take k)) (he.drop (l + k))
                rw [List.length_append, List.length_append, c1, c2, Nat.add_mul]
              have hE' : ElemsD (okB X φ (frz H x) w.heap.size) w e (copyTo xs l ys) (splice cs (l * e.sz) (news.take (k * e.sz))) := by rw [hct, hsp]; exact hE
              exact fun i hi => (hE' i hi).mono hok (fun b hb => setRow_other w g b _ (fun e' => hb.2.2 n _ hn rfl (by rw [hv, e']; rfl)))
          · rintro rfl
            have := R1.mine n _ b hn rfl (by rw [hv]; rfl)
            simp [Ob.isIo] at this; omega
    unfold copyI at hc
    cases d with
    | ref n =>
      simp only at hc
      split at hc <;> first | cases hc | skip
      rename_i e' xs hn
      split at hc
      · rename_i xs2 hcast
        obtain ⟨ee, hxx⟩ := castT_some hcast
        injection ee with ee
        subst ee
        simp only at hxx
        subst hxx
        simp only [Option.some.injEq, Prod.mk.injEq] at hc
        obtain ⟨rfl, rfl, rfl⟩ := hc
        refine go n 0 xs hn (Nat.zero_le _) ?_ (by simp) rfl
        obtain ⟨T, cs, hr, he⟩ := R1.obs n _ hn
        rw [hd.1]
        rcases hr.2 with ⟨h1, h2⟩ | ⟨g, cap, cur, hv, _⟩
        · rw [h1]; simp [viewV]
        · rw [hv]; simp [viewV, add0]
      · cases hc
    | view n l =>
      simp only at hc
      split at hc <;> first | cases hc | skip
      rename_i e' xs hn
      split at hc
      · rename_i xs2 hcast
        obtain ⟨ee, hxx⟩ := castT_some hcast
        injection ee with ee
        subst ee
        simp only at hxx
        subst hxx
        simp only [Option.some.injEq, Prod.mk.injEq] at hc
        obtain ⟨rfl, rfl, rfl⟩ := hc
        obtain ⟨o, ho, hv⟩ := DDen.fz hd (frz_fz H x)
        rw [hn] at ho; injection ho with ho; subst ho
        exact go n l xs hn hv.1 hv.2 rfl rfl
      · cases hc
    | _ => cases hc
  · cases hc
end
end Pm
end
section
/- Numbers, bools, comparisons. -/
namespace Pm
open Go Go.RowKit

section
variable {P : Program} {X : Ctx} {φ : Nat → Value} {tm : List S} {H : Hp} {a : Act} {w : World}

theorem intOp_den {ok : Nat → Prop} {op : BinOp} {k : IntKind} {x y : Int} {c : Chk} {tv : TV} (h : intOp op k x y = some (c, tv)) (hp : c.p) (t : TypeId) (xo yo : Operand) :
    ∃ v, (do eqGuard op t xo yo (.int k x) (.int k y); Go.binOp op t (.int k x) (.int k y)).run P w = .ok v w ∧ VV ok w tv.t tv.x v := by
  cases op <;> simp only [intOp, Option.some.injEq, Prod.mk.injEq] at h <;> first | (obtain ⟨rfl, rfl⟩ := h) | cases h
  all_goals first
    | exact ⟨.int k (k.wrap (x + y)), by simp [eqGuard, Go.binOp, Go.Op.intArith], [_], rfl, rfl⟩
    | exact ⟨.int k (k.wrap (x - y)), by simp [eqGuard, Go.binOp, Go.Op.intArith], [_], rfl, rfl⟩
    | exact ⟨.int k (k.wrap (x * y)), by simp [eqGuard, Go.binOp, Go.Op.intArith], [_], rfl, rfl⟩
    | exact ⟨.int k (k.wrap (x.tdiv y)), by have hp : ¬ y = 0 := hp; simp [eqGuard, Go.binOp, Go.Op.intDiv, hp], [_], rfl, rfl⟩
    | exact ⟨.int k (x.tmod y), by have hp : ¬ y = 0 := hp; simp [eqGuard, Go.binOp, Go.Op.intDiv, hp], [_], rfl, rfl⟩
    | exact ⟨.int k (bits .and k x y), by simp [eqGuard, Go.binOp, Go.Op.intBits, bits], [_], rfl, rfl⟩
    | exact ⟨.int k (bits .or k x y), by simp [eqGuard, Go.binOp, Go.Op.intBits, bits], [_], rfl, rfl⟩
    | exact ⟨.int k (bits .xor k x y), by simp [eqGuard, Go.binOp, Go.Op.intBits, bits], [_], rfl, rfl⟩
    | exact ⟨.int k (bits .andNot k x y), by simp [eqGuard, Go.binOp, Go.Op.intBits, bits], [_], rfl, rfl⟩
    | exact ⟨.bool (x == y), by simp [eqGuard, Go.binOp, Go.Op.intCmp], [_], rfl, rfl⟩
    | exact ⟨.bool (x != y), by simp [eqGuard, Go.binOp, Go.Op.intCmp], [_], rfl, rfl⟩
    | exact ⟨.bool (decide (x < y)), by simp [eqGuard, Go.binOp, Go.Op.intCmp], [_], rfl, rfl⟩
    | exact ⟨.bool (decide (x ≤ y)), by simp [eqGuard, Go.binOp, Go.Op.intCmp], [_], rfl, rfl⟩
    | exact ⟨.bool (decide (x > y)), by simp [eqGuard, Go.binOp, Go.Op.intCmp], [_], rfl, rfl⟩
    | exact ⟨.bool (decide (x ≥ y)), by simp [eqGuard, Go.binOp, Go.Op.intCmp], [_], rfl, rfl⟩

/-- Types that are compared part by part. -/
def eqk (P : Program) : Ty → (TypeId → Bool) × (List Field → Nat → Bool)
  | .pair a b =>
    let A := eqk P a; let B := eqk P b
    let me := fun t => tyOk P (.pair a b) t && !P.stoodInHeld t && match P.underlying t with
      | some (.struct fs) => match fs.toList with
        | f :: rest => Nat.beq f.offset 0 && !(f.name == "_") && tyOk P a f.type && A.1 f.type && B.2 rest a.sz
        | [] => false
      | _ => false
    (me, fun fs off => match fs with
      | [g] => Nat.beq g.offset off && !(g.name == "_") && me g.type
      | g :: h :: rest => Nat.beq g.offset off && !(g.name == "_") && tyOk P a g.type && A.1 g.type && B.2 (h :: rest) (off + a.sz)
      | [] => false)
  | .int k =>
    let me := fun t => tyOk P (.int k) t
    (me, fun fs off => match fs with | [g] => Nat.beq g.offset off && !(g.name == "_") && me g.type | _ => false)
  | .bool =>
    let me := fun t => tyOk P .bool t
    (me, fun fs off => match fs with | [g] => Nat.beq g.offset off && !(g.name == "_") && me g.type | _ => false)
  | .unit => (fun _ => false, fun fs _ => fs.isEmpty)
  | _ => (fun _ => false, fun _ _ => false)
def Ty.ht : Ty → Nat
  | .pair a b => a.ht + b.ht + 1
  | _ => 1
theorem run_part {T : Ty} {t : TypeId} (h : tyOk P T t = true) {cs : Array Value} {off : Nat} {ds : List Value} (hd : (cs.toList.drop off).take T.sz = ds) (hl : ds.length = T.sz) (h1 : T.agg = false → ∃ c, ds = [c]) : (part t cs off).run P w = .ok (packV T ds) w := by
  obtain ⟨i, z, hi, hs, _⟩ := info_of h
  unfold part
  simp only [Sem.run_bind, agg_of h w, Result.andThen_ok]
  cases hg : T.agg with
  | true =>
    simp [Go.sizeOf, typeInfo, hi, hs, packV, hg]
    rw [← hd]
    apply Array.ext'
    simp
  | false =>
    obtain ⟨c, rfl⟩ := h1 hg
    simp only [List.length_cons, List.length_nil, Nat.zero_add] at hl
    rw [← hl] at hd
    have : cs[off]? = some c := by
      have := congrArg (·[0]?) hd
      simpa [List.getElem?_take, List.getElem?_drop] using this
    simp [this, packV, hg]
theorem run_fieldsEq {d : Nat} {xs ys : Array Value} {f : Field} {fs : List Field} (hn : (f.name == "_") = false) {u v : Value} (hu : (part f.type xs f.offset).run P w = .ok u w) (hv : (part f.type ys f.offset).run P w = .ok v w) {b : Bool} (he : (Go.Op.equalIn d f.type u v).run P w = .ok b w) {c : Bool} (hr : (Go.Op.eqFields d xs ys fs).run P w = .ok c w) :
    (Go.Op.eqFields d xs ys (f :: fs)).run P w = .ok (b && c) w := by
  have hn' : f.name ≠ "_" := by simpa using hn
  simp only [Go.Op.eqFields, ne_eq, hn', not_false_eq_true, if_true, Sem.run_bind, hu, hv, he, Result.andThen_ok]
  cases b <;> simp [hr]
theorem eq_both {ok : Nat → Prop} : ∀ (T : Ty),
    (∀ (t : TypeId) (x y : T.I) (cs ds : List Value) (b : Bool) (d : Nat), (eqk P T).1 t = true → VDen ok w T x cs → VDen ok w T y ds → eqT T x y = some b → T.ht ≤ d → (Go.Op.equalIn d t (packV T cs) (packV T ds)).run P w = .ok b w) ∧
    (∀ (fs : List Field) (off : Nat) (x y : T.I) (cs ds : List Value) (b : Bool) (d : Nat) (Xc Yc : Array Value), (eqk P T).2 fs off = true → VDen ok w T x cs → VDen ok w T y ds → eqT T x y = some b → T.ht ≤ d → (Xc.toList.drop off).take T.sz = cs → (Yc.toList.drop off).take T.sz = ds → (Go.Op.eqFields d Xc Yc fs).run P w = .ok b w) := by
  intro T
  have one : ∀ (T : Ty), (∀ (t : TypeId) (x y : T.I) (cs ds : List Value) (b : Bool) (d : Nat), (eqk P T).1 t = true → VDen ok w T x cs → VDen ok w T y ds → eqT T x y = some b → T.ht ≤ d → (Go.Op.equalIn d t (packV T cs) (packV T ds)).run P w = .ok b w) → (∀ t, (eqk P T).1 t = true → tyOk P T t = true) →
      ∀ (g : Field) (off : Nat) (x y : T.I) (cs ds : List Value) (b : Bool) (d : Nat) (Xc Yc : Array Value), g.offset = off → (g.name == "_") = false → (eqk P T).1 g.type = true → VDen ok w T x cs → VDen ok w T y ds → eqT T x y = some b → T.ht ≤ d → (Xc.toList.drop off).take T.sz = cs → (Yc.toList.drop off).take T.sz = ds → (Go.Op.eqFields d Xc Yc [g]).run P w = .ok b w := by
    intro T hA hok g off x y cs ds b d Xc Yc ho hn hg hx hy he hd h1 h2
    subst ho
    have := run_fieldsEq (fs := []) hn (run_part (w := w) (hok _ hg) h1 hx.length (fun hg => one_cell hx hg)) (run_part (w := w) (hok _ hg) h2 hy.length (fun hg => one_cell hy hg)) (hA _ _ _ _ _ _ d hg hx hy he hd) (c := true) (by simp [Go.Op.eqFields])
    simpa using this
  induction T with
  | int k =>
    have hA : ∀ (t : TypeId) (x y : (Ty.int k).I) (cs ds : List Value) (b : Bool) (d : Nat), (eqk P (.int k)).1 t = true → VDen ok w (.int k) x cs → VDen ok w (.int k) y ds → eqT (.int k) x y = some b → (Ty.int k).ht ≤ d → (Go.Op.equalIn d t (packV (.int k) cs) (packV (.int k) ds)).run P w = .ok b w := by
      intro t x y cs ds b d h hx hy he hd
      obtain ⟨d, rfl⟩ : ∃ m, d = m + 1 := ⟨d - 1, by simp [Ty.ht] at hd; omega⟩
      obtain rfl : cs = [.int k x] := hx
      obtain rfl : ds = [.int k y] := hy
      simp only [eqT, Option.some.injEq] at he
      subst he
      simp [packV, Ty.agg, Go.Op.equalIn, run_underlying (int_of h)]
    refine ⟨hA, fun fs off x y cs ds b d Xc Yc h hx hy he hd h1 h2 => ?_⟩
    simp only [eqk] at h
    split at h
    · rename_i g
      simp only [Bool.and_eq_true, Nat.beq_eq, Bool.not_eq_true'] at h
      exact one _ hA (fun _ h => h) g off x y cs ds b d Xc Yc h.1.1 h.1.2 h.2 hx hy he hd h1 h2
    · cases h
  | bool =>
    have hA : ∀ (t : TypeId) (x y : Ty.bool.I) (cs ds : List Value) (b : Bool) (d : Nat), (eqk P .bool).1 t = true → VDen ok w .bool x cs → VDen ok w .bool y ds → eqT .bool x y = some b → Ty.bool.ht ≤ d → (Go.Op.equalIn d t (packV .bool cs) (packV .bool ds)).run P w = .ok b w := by
      intro t x y cs ds b d h hx hy he hd
      obtain ⟨d, rfl⟩ : ∃ m, d = m + 1 := ⟨d - 1, by simp [Ty.ht] at hd; omega⟩
      obtain rfl : cs = [.bool x] := hx
      obtain rfl : ds = [.bool y] := hy
      simp only [eqT, Option.some.injEq] at he
      subst he
      simp [packV, Ty.agg, Go.Op.equalIn, run_underlying (bool_of h)]
    refine ⟨hA, fun fs off x y cs ds b d Xc Yc h hx hy he hd h1 h2 => ?_⟩
    simp only [eqk] at h
    split at h
    · rename_i g
      simp only [Bool.and_eq_true, Nat.beq_eq, Bool.not_eq_true'] at h
      exact one _ hA (fun _ h => h) g off x y cs ds b d Xc Yc h.1.1 h.1.2 h.2 hx hy he hd h1 h2
    · cases h
  | str => exact ⟨fun t x y cs ds b d h => by simp [eqk] at h, fun fs off x y cs ds b d Xc Yc h => by simp [eqk] at h⟩
  | sl e => exact ⟨fun t x y cs ds b d h => by simp [eqk] at h, fun fs off x y cs ds b d Xc Yc h => by simp [eqk] at h⟩
  | unit =>
    refine ⟨fun t x y cs ds b d h => by simp [eqk] at h, fun fs off x y cs ds b d Xc Yc h hx hy he hd h1 h2 => ?_⟩
    simp only [eqk, List.isEmpty_iff] at h
    subst h
    simp only [eqT, Option.some.injEq] at he
    subst he
    simp [Go.Op.eqFields]
  | pair A B ihA ihB =>
    have two : ∀ (f : Field) (rest : List Field) (off : Nat) (x y : (Ty.pair A B).I) (cs ds : List Value) (b : Bool) (d : Nat) (Xc Yc : Array Value), f.offset = off → (f.name == "_") = false → tyOk P A f.type = true → (eqk P A).1 f.type = true → (eqk P B).2 rest (off + A.sz) = true → VDen ok w (.pair A B) x cs → VDen ok w (.pair A B) y ds → eqT (.pair A B) x y = some b → A.ht ≤ d → B.ht ≤ d → (Xc.toList.drop off).take (A.sz + B.sz) = cs → (Yc.toList.drop off).take (A.sz + B.sz) = ds → (Go.Op.eqFields d Xc Yc (f :: rest)).run P w = .ok b w := by
      intro f rest off x y cs ds b d Xc Yc ho hn hok hf hr hx hy he hd1 hd2 h1 h2
      subst ho
      obtain ⟨c1, c2, rfl, hx1, hx2⟩ := hx
      obtain ⟨d1, d2, rfl, hy1, hy2⟩ := hy
      simp only [eqT] at he
      split at he
      · rename_i p q hp hq
        injection he with he; subst he
        have cutA : ∀ {L : List Value} {e1 e2 : List Value}, (L.drop f.offset).take (A.sz + B.sz) = e1 ++ e2 → e1.length = A.sz → e2.length = B.sz → (L.drop f.offset).take A.sz = e1 ∧ (L.drop (f.offset + A.sz)).take B.sz = e2 := by
          intro L e1 e2 h l1 l2
          constructor
          · have := congrArg (List.take A.sz) h
            rw [List.take_take, Nat.min_eq_left (by omega)] at this
            rw [this, ← l1, List.take_left]
          · have := congrArg (List.drop A.sz) h
            rw [List.drop_take, List.drop_drop, Nat.add_sub_cancel_left] at this
            rw [this, ← l1, List.drop_left]
        obtain ⟨a1, a2⟩ := cutA h1 hx1.length hx2.length
        obtain ⟨b1, b2⟩ := cutA h2 hy1.length hy2.length
        exact run_fieldsEq hn (run_part (w := w) hok a1 hx1.length (fun hg => one_cell hx1 hg)) (run_part (w := w) hok b1 hy1.length (fun hg => one_cell hy1 hg)) (ihA.1 _ _ _ _ _ _ d hf hx1 hy1 hp hd1) (ihB.2 _ _ _ _ _ _ _ d Xc Yc hr hx2 hy2 hq hd2 a2 b2)
      · cases he
    have hA : ∀ (t : TypeId) (x y : (Ty.pair A B).I) (cs ds : List Value) (b : Bool) (d : Nat), (eqk P (.pair A B)).1 t = true → VDen ok w (.pair A B) x cs → VDen ok w (.pair A B) y ds → eqT (.pair A B) x y = some b → (Ty.pair A B).ht ≤ d → (Go.Op.equalIn d t (packV (.pair A B) cs) (packV (.pair A B) ds)).run P w = .ok b w := by
      intro t x y cs ds b d h hx hy he hd
      obtain ⟨d, rfl⟩ : ∃ m, d = m + 1 := ⟨d - 1, by simp [Ty.ht] at hd; omega⟩
      simp only [eqk, Bool.and_eq_true, Bool.not_eq_true'] at h
      obtain ⟨⟨h0, hst⟩, h3⟩ := h
      split at h3
      · rename_i fs hu
        split at h3
        · rename_i f rest hfs
          simp only [Bool.and_eq_true, Nat.beq_eq, Bool.not_eq_true'] at h3
          have hfo : P.fieldsOf t = fs := by simp [Program.fieldsOf, hu]
          rw [packV, packV]
          simp only [Ty.agg, cond_true]
          rw [run_equalIn_struct w d t _ _ (by rw [hfo]; exact hu) hst, hfo, hfs]
          simp only [Ty.ht] at hd
          have hlx : cs.length = A.sz + B.sz := hx.length
          have hly : ds.length = A.sz + B.sz := hy.length
          exact two f rest 0 x y cs ds b d _ _ h3.1.1.1.1 h3.1.1.1.2 h3.1.1.2 h3.1.2 (by simpa using h3.2) hx hy he (by omega) (by omega) (by simp [← hlx]) (by simp [← hly])
        · cases h3
      · cases h3
    refine ⟨hA, fun fs off x y cs ds b d Xc Yc h hx hy he hd h1 h2 => ?_⟩
    simp only [eqk] at h
    split at h
    · rename_i g
      simp only [Bool.and_eq_true, Nat.beq_eq, Bool.not_eq_true'] at h
      refine one _ hA (fun t h => ?_) g off x y cs ds b d Xc Yc h.1.1 h.1.2 ?_ hx hy he hd h1 h2
      · simp only [eqk, Bool.and_eq_true] at h; exact h.1.1
      · simp only [eqk, Bool.and_eq_true, Bool.not_eq_true']; exact h.2
    · rename_i g g2 rest
      simp only [Bool.and_eq_true, Nat.beq_eq, Bool.not_eq_true'] at h
      simp only [Ty.ht] at hd
      exact two g (g2 :: rest) off x y cs ds b d Xc Yc h.1.1.1.1 h.1.1.1.2 h.1.1.2 h.1.2 h.2 hx hy he (by omega) (by omega) h1 h2
    · cases h
/-- What a comparison's type is asked for. -/
def eqB (P : Program) (T : Ty) (t : TypeId) : Bool :=
  (match T with
   | .pair _ _ => !P.eqGuardType P.depth t
   | _ => true) && (eqk P T).1 t && Nat.blt T.ht 10000
theorem binOp_den {ok : Nat → Prop} {op : BinOp} {T : Ty} {t : TypeId} {x y : T.I} {cs ds : List Value} {c : Chk} {tv : TV} (hx : VDen ok w T x cs) (hy : VDen ok w T y ds) (h : binOp op T x y = some (c, tv)) (hp : c.p)
    (hT : (∃ k, T = .int k) ∨ eqB P T t = true) (xo yo : Operand) :
    ∃ v, (do eqGuard op t xo yo (packV T cs) (packV T ds); Go.binOp op t (packV T cs) (packV T ds)).run P w = .ok v w ∧ VV ok w tv.t tv.x v := by
  have eqs : ∀ {b : Bool}, eqB P T t = true → eqT T x y = some b → (∀ k, T ≠ .int k) → ((op = .eql ∧ tv = ⟨.bool, b⟩) ∨ (op = .neq ∧ tv = ⟨.bool, !b⟩)) → ∃ v, (do eqGuard op t xo yo (packV T cs) (packV T ds); Go.binOp op t (packV T cs) (packV T ds)).run P w = .ok v w ∧ VV ok w tv.t tv.x v := by
    intro b hB hb hni hop
    simp only [eqB, Bool.and_eq_true] at hB
    have hh : T.ht < 10000 := by simpa using hB.2
    have hrun := (eq_both (P := P) (w := w) (ok := ok) T).1 t x y cs ds b 10000 hB.1.2 hx hy hb (by omega)
    have hrun' : (Go.Op.equal t (packV T cs) (packV T ds)).run P w = .ok b w := hrun
    have shape : (eqGuard op t xo yo (packV T cs) (packV T ds)).run P w = .ok () w ∧ (∀ z, (op = .eql ∧ z = Value.bool b) ∨ (op = .neq ∧ z = Value.bool (!b)) → (Go.binOp op t (packV T cs) (packV T ds)).run P w = .ok z w) := by
      cases T with
      | int k => exact absurd rfl (hni k)
      | bool =>
        obtain rfl : cs = [.bool x] := hx
        obtain rfl : ds = [.bool y] := hy
        refine ⟨by rcases hop with ⟨rfl, _⟩ | ⟨rfl, _⟩ <;> simp [eqGuard, packV, Ty.agg], ?_⟩
        rintro z (⟨rfl, rfl⟩ | ⟨rfl, rfl⟩)
        · simp only [packV, Ty.agg, cond_false, List.headD_cons] at hrun' ⊢; simp [Go.binOp, hrun']
        · simp only [packV, Ty.agg, cond_false, List.headD_cons] at hrun' ⊢; simp [Go.binOp, hrun']
      | pair A B =>
        have hg : P.eqGuardType P.depth t = false := by simpa using hB.1.1
        refine ⟨run_eqGuard_agg w op t xo yo _ _ hg, ?_⟩
        simp only [packV, Ty.agg, cond_true] at hrun ⊢
        rintro z (⟨rfl, rfl⟩ | ⟨rfl, rfl⟩)
        · rw [run_eql_struct, hrun]; rfl
        · rw [run_neq_struct, hrun]; rfl
      | str => simp [eqk] at hB
      | unit => simp [eqk] at hB
      | sl e => simp [eqk] at hB
    rcases hop with ⟨rfl, rfl⟩ | ⟨rfl, rfl⟩
    · exact ⟨.bool b, by simp only [Sem.run_bind, shape.1, Result.andThen_ok]; exact shape.2 _ (.inl ⟨rfl, rfl⟩), [_], rfl, rfl⟩
    · exact ⟨.bool (!b), by simp only [Sem.run_bind, shape.1, Result.andThen_ok]; exact shape.2 _ (.inr ⟨rfl, rfl⟩), [_], rfl, rfl⟩
  cases T with
  | int k =>
    obtain rfl : cs = [.int k x] := hx
    obtain rfl : ds = [.int k y] := hy
    exact intOp_den h hp t xo yo
  | _ =>
    rcases hT with ⟨k, hk⟩ | hB
    · cases hk
    simp only [binOp] at h
    split at h
    · obtain ⟨b, hb, he⟩ := Option.map_eq_some_iff.1 h
      simp only [Prod.mk.injEq] at he
      exact eqs hB hb (fun k => by simp) (.inl ⟨rfl, he.2.symm⟩)
    · obtain ⟨b, hb, he⟩ := Option.map_eq_some_iff.1 h
      simp only [Prod.mk.injEq] at he
      exact eqs hB hb (fun k => by simp) (.inr ⟨rfl, he.2.symm⟩)
    · cases h
end
end Pm
end
