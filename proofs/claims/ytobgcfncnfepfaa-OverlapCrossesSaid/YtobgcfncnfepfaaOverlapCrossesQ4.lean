/- Parts of the proof of OverlapCrosses, joined: N11b, M13, C15b, K13, Aw15, LOverlapCrosses. -/
import Derived.Test.YtobgcfncnfepfaaOverlapCrossesQ3
set_option linter.unusedVariables false
set_option linter.unusedSimpArgs false
section
/- The normal form: one for all beginnings and directions; its own normal form. -/
namespace Geo
theorem lst_rev (z : Pt) (L : List Pt) : lst z L.reverse = hd L z := by
  cases L with
  | nil => rfl
  | cons a L => rw [List.reverse_cons, lst_snoc]; rfl
theorem crns_rev (L : List Pt) : ∀ (p z : Pt), (crns p L z).reverse = crns z L.reverse p := by
  induction L with
  | nil => intro p z; rfl
  | cons v L ih =>
    intro p z
    rw [List.reverse_cons, crns_app, lst_rev, ← ih, crns]
    have e : crns (hd L z) [v] p = if cr (hd L z) v p = 0 then [] else [v] := rfl
    have e2 : cr (hd L z) v p = 0 ↔ cr p v (hd L z) = 0 := by
      have : cr (hd L z) v p = - cr p v (hd L z) := by unfold cr; grind
      rw [this]; grind
    rw [e]
    by_cases h : cr p v (hd L z) = 0
    · rw [if_pos h, if_pos (e2.2 h), List.append_nil]
    · rw [if_neg h, if_neg (fun k => h (e2.1 k)), List.reverse_cons]
theorem cnr_rev (P : List Pt) : cnr P.reverse = (cnr P).reverse := by
  cases P with
  | nil => rfl
  | cons a l =>
    by_cases hl : l = []
    · subst hl
      show cnr [a] = (crns a [a] a).reverse
      rw [crns_rev]; rfl
    · have hd' : l = l.dropLast ++ [l.getLast hl] := (List.dropLast_concat_getLast hl).symm
      generalize l.dropLast = m at hd'
      generalize l.getLast hl = c at hd'
      subst hd'
      have e1 : (a :: (m ++ [c])).reverse = c :: (m.reverse ++ [a]) := by simp
      have e2 : cnr (a :: (m ++ [c])) = crns c (a :: (m ++ [c])) a := by
        show crns (lst a (m ++ [c])) _ _ = _
        rw [lst_snoc]
      have e3 : cnr (c :: (m.reverse ++ [a])) = crns a (c :: (m.reverse ++ [a])) c := by
        show crns (lst c (m.reverse ++ [a])) _ _ = _
        rw [lst_snoc]
      rw [e1, e2, e3, crns_rev, e1]
end Geo
namespace Pl
open Go Geo Pm
theorem nodup_rev {l : List IP} (h : l.Nodup) : l.reverse.Nodup := by
  unfold List.Nodup at *
  rw [List.pairwise_reverse]
  exact h.imp fun hab => hab.symm
theorem RotI.trans {P Q R : List IP} (h : RotI P Q) (k : RotI Q R) : RotI P R := by
  obtain ⟨A, B, rfl, rfl⟩ := h
  obtain ⟨C, D, e, rfl⟩ := k
  rcases List.append_eq_append_iff.1 e with ⟨E, h1, h2⟩ | ⟨E, h1, h2⟩
  · subst h1; subst h2; exact ⟨E, D ++ B, by simp, by simp⟩
  · subst h1; subst h2; exact ⟨A ++ C, E, by simp, by simp⟩
theorem RotI.same {P Q : List IP} (h : RotI P Q) (hn : P.Nodup) (he : P.getD 0 (0, 0) = Q.getD 0 (0, 0)) : P = Q := by
  obtain ⟨A, B, rfl, rfl⟩ := h
  cases A with
  | nil => simp
  | cons a A =>
    cases B with
    | nil => simp
    | cons b B =>
      exfalso
      have he : a = b := he
      subst he
      rw [List.cons_append, List.nodup_cons] at hn
      exact hn.1 (by simp)
theorem leastL_head {l : List IP} (h : l ≠ []) : (leastL l).getD 0 (0, 0) = l.getD (leastAt l) (0, 0) := by
  have hk := (leastAt_spec h).1
  unfold leastL
  rw [drop_cons hk, getD_eq hk]
  rfl
theorem RotI.least {P Q : List IP} (h : RotI P Q) (hn : P.Nodup) : leastL P = leastL Q := by
  by_cases hP : P = []
  · subst hP
    have : Q = [] := List.length_eq_zero_iff.1 h.len.symm
    rw [this]
  have hQ := h.ne hP
  have hr : RotI (leastL P) (leastL Q) := (leastL_rotI.symm.trans h).trans leastL_rotI
  refine hr.same ?_ ?_
  · obtain ⟨A, B, e1, e2⟩ := leastL_rotI (l := P)
    rw [e2]
    rw [e1] at hn
    rw [List.nodup_append] at hn ⊢
    exact ⟨hn.2.1, hn.1, fun a ha b hb e => hn.2.2 b hb a ha e.symm⟩
  · rw [leastL_head hP, leastL_head hQ]
    obtain ⟨a1, a2, _⟩ := leastAt_spec hP
    obtain ⟨b1, b2, _⟩ := leastAt_spec hQ
    exact lexP_eq (b2 _ ((h.mem _).1 (getD_in a1 (0, 0)))) (a2 _ ((h.mem _).2 (getD_in b1 (0, 0))))
theorem corn_rev {P : List IP} (hP : P ≠ []) : corn P.reverse = (corn P).reverse := by
  apply czL_inj
  rw [corn_cnr (by simpa using hP), czL_rev, cnr_rev, czL_rev, corn_cnr hP]
theorem corn_self_rot {P Q : List IP} (h : RotI P Q) (hP : P ≠ []) (hs : corn P = P) : corn Q = Q := by
  apply czL_inj
  rw [corn_cnr (h.ne hP)]
  exact cnr_same_rot h.cz (by rw [← corn_cnr hP, hs])
theorem area_ne {P : List IP} (h : chk P = 0) : areaI P ≠ 0 := by
  obtain ⟨h3, h40, hb, hP, hs⟩ := chk_in h
  obtain ⟨s, t⟩ := turns _ (czL P) rfl (simp_cz h3 hs)
  have ha := t.area
  rw [ar_cz hP] at ha
  intro e
  rw [e] at ha
  have e0 : ((0 : Int) : Rat) = 0 := rfl
  rw [e0, Rat.mul_zero] at ha
  exact absurd ha (by grind)
/-- the corners, turned counterclockwise -/
def ccw (P : List IP) : List IP := if areaI P < 0 then (corn P).reverse else corn P
structure Ccw (P C : List IP) : Prop where
  chk : Geo.chk C = 0
  area : areaI C = if areaI P < 0 then -areaI P else areaI P
  pos : 0 < areaI C
  self : corn C = C
  nodup : C.Nodup
  mem : ∀ s ∈ C, s ∈ P
  len : C.length ≤ P.length
theorem ccw_of {P : List IP} (h : chk P = 0) : Ccw P (ccw P) := by
  have hc := corn_of h
  have hne := corn_ne h
  have ha := area_ne h
  unfold ccw
  by_cases h0 : areaI P < 0
  · rw [if_pos h0]
    have hrev : areaI (corn P).reverse = -areaI P := by rw [area_rev, hc.area]
    refine ⟨by rw [chk_rev]; exact hc.chk, by rw [hrev, if_pos h0], by rw [hrev]; omega, by rw [corn_rev hne, hc.self], nodup_rev hc.nodup, fun s hs => hc.sub.subset (List.mem_reverse.1 hs), by rw [List.length_reverse]; exact hc.len⟩
  · rw [if_neg h0]
    exact ⟨hc.chk, by rw [hc.area, if_neg h0], by rw [hc.area]; omega, hc.self, hc.nodup, fun s hs => hc.sub.subset hs, hc.len⟩
theorem RotI.nodup {P Q : List IP} (h : RotI P Q) (hn : P.Nodup) : Q.Nodup := by
  obtain ⟨A, B, rfl, rfl⟩ := h
  rw [List.nodup_append] at hn ⊢
  exact ⟨hn.2.1, hn.1, fun a ha b hb e => hn.2.2 b hb a ha e.symm⟩
theorem Ccw.rot {P C D : List IP} (h : Ccw P C) (k : RotI C D) : Ccw P D := by
  have hne := (chk_in h.chk).2.2.2.1
  exact ⟨by rw [← k.chk]; exact h.chk, by rw [← k.area hne]; exact h.area, by rw [← k.area hne]; exact h.pos, corn_self_rot k hne h.self, k.nodup h.nodup, fun s hs => h.mem s ((k.mem s).2 hs), by rw [← k.len]; exact h.len⟩
theorem nrm_ccw {P : List IP} (h : chk P = 0) : Ccw P (nrm P) := (ccw_of h).rot leastL_rotI
end Pl
end
section
/- Chapter 13: moved polygons have moved normal forms and triangles. -/
namespace Pl
open Go Geo Pm
/-- the triangles' vertices are the polygon's -/
theorem spl_mem : ∀ (m : Nat) (P : List IP), 3 ≤ P.length → ∀ t ∈ spl m P, t.length = 3 ∧ ∀ s ∈ t, s ∈ P
  | 0, P, h, t, ht => by
    rw [List.mem_singleton.1 ht]
    refine ⟨rfl, fun s hs => ?_⟩
    unfold tri0 at hs
    simp only [List.mem_cons, List.not_mem_nil, or_false] at hs
    rcases hs with rfl | rfl | rfl <;> exact getD_in (by omega) _
  | m + 1, P, h, t, ht => by
    have hP : P ≠ [] := by rintro rfl; simp at h
    have base : t = tri0 P → t.length = 3 ∧ ∀ s ∈ t, s ∈ P := fun e => by
      rw [e]
      refine ⟨rfl, fun s hs => ?_⟩
      unfold tri0 at hs
      simp only [List.mem_cons, List.not_mem_nil, or_false] at hs
      rcases hs with rfl | rfl | rfl <;> exact getD_in (by omega) _
    have rest : ∀ i, i < P.length → P.length > 3 → t ∈ spl m (P.eraseIdx i) → t.length = 3 ∧ ∀ s ∈ t, s ∈ P := fun i hi hl ht => by
      have hlen := List.length_eraseIdx_of_lt hi
      obtain ⟨h1, h2⟩ := spl_mem m (P.eraseIdx i) (by omega) t ht
      exact ⟨h1, fun s hs => List.mem_of_mem_eraseIdx (h2 s hs)⟩
    unfold spl at ht
    by_cases hc : P.length ≤ 3
    · rw [if_pos hc] at ht; exact base (List.mem_singleton.1 ht)
    rw [if_neg hc] at ht
    cases hf : fstB (strB P) P.length 0 with
    | some i =>
      obtain ⟨_, hi, _⟩ := fstB_some _ _ hf
      rw [hf] at ht
      exact rest i (by omega) (by omega) ht
    | none =>
      rw [hf] at ht
      cases he : fstB (earB P) P.length 0 with
      | none => rw [he] at ht; exact base (List.mem_singleton.1 ht)
      | some i =>
        obtain ⟨_, hi, _⟩ := fstB_some _ _ he
        rw [he] at ht
        rcases List.mem_cons.1 ht with rfl | ht
        · refine ⟨rfl, fun s hs => ?_⟩
          unfold tri at hs
          simp only [List.mem_cons, List.not_mem_nil, or_false] at hs
          rcases hs with rfl | rfl | rfl <;> exact nth_in hP _
        · exact rest i (by omega) (by omega) ht
theorem triE_mem {P : List IP} (h : chk P = 0) : ∀ t ∈ triE P, t.length = 3 ∧ ∀ s ∈ t, s ∈ P := by
  intro t ht
  unfold triE at ht
  rw [if_pos h] at ht
  have hc := nrm_ccw h
  obtain ⟨h1, h2⟩ := spl_mem 60 (nrm P) (chk_in hc.chk).1 t ht
  exact ⟨h1, fun s hs => hc.mem s (h2 s hs)⟩
theorem spl_len : ∀ (m : Nat) (P : List IP), (spl m P).length ≤ m + 1
  | 0, P => by simp [spl]
  | m + 1, P => by
    unfold spl
    split
    · simp
    · split
      · rename_i i _; have := spl_len m (P.eraseIdx i); omega
      · split
        · rename_i i _; have := spl_len m (P.eraseIdx i); simp; omega
        · simp
theorem triE_len (P : List IP) : (triE P).length ≤ 61 := by
  unfold triE
  split
  · exact spl_len 60 _
  · simp
end Pl
end
section
/- Chapter 15: overlapping and touching: what the program computes. -/
namespace Pl
open Go Geo Pm
def offB (c : Bool) (p q s : IP) : Bool := decide (crI p q s < 0) || (c && crI p q s == 0)
def outTo (a b : List IP) (c : Bool) : Nat → Nat → Bool
  | 0, _ => false
  | m + 1, i => if b.all (offB c (nth a i) (nth a (i + 1))) then true else outTo a b c m (i + 1)
/-- a side of a has all of b on its right -/
def outB (a b : List IP) (c : Bool) : Bool := outTo a b c a.length 0
theorem out_lp2 {A B a b : List IP} {C c : Bool} (hb : InsI b) (hl : b.length ≤ 100) {p q : IP} (hp : insP p) (hq : insP q) {i : Nat} {n : Int} {res : Bool}
    (hn : overlap_outside_lp1 CG A B C a b c a n (wr .i64 ((i : Int) + 1)) = some [.val .bool res]) : ∀ (m k : Nat), k + m = b.length → ∀ all : Bool,
    overlap_outside_lp2 CG A B C a b c all a n (i : Int) b (b.length : Int) (k : Int) p q = some [.val .bool (if (all && (b.drop k).all (offB c p q)) = true then true else res)]
  | 0, k, h, all => by
    refine overlap_outside_lp2_st _ _ _ _ _ _ _ _ _ _ _ _ _ _ _ (neg (ige (by omega)) ?_)
    rw [List.drop_of_length_le (by omega), List.all_nil, Bool.and_true]
    cases all with
    | true => exact pos rfl rfl
    | false => exact neg (by simp) (by rw [if_neg (by simp)]; exact hn)
  | m + 1, k, h, all => by
    have hk : k < b.length := by omega
    have ih := out_lp2 (A := A) (B := B) (C := C) hb hl hp hq hn m (k + 1) (by omega)
    have hs : insP (b.getD k (0, 0)) := hb _ (getD_in hk _)
    refine overlap_outside_lp2_st _ _ _ _ _ _ _ _ _ _ _ _ _ _ _ ?_
    rw [wrS (by omega), Int.toNat_natCast]
    refine pos (ilt hk) (pos (ixn hk) ?_)
    rw [cross_w hp hq hs, drop_cons hk, ← getD_eq hk (0, 0), List.all_cons]
    cases all with
    | false =>
      refine neg (by simp) ?_
      rw [Bool.false_and]
      have := ih false
      rw [Bool.false_and] at this
      exact this
    | true =>
      refine pos rfl ?_
      rw [Bool.true_and]
      by_cases h1 : crI p q (b.getD k (0, 0)) < 0
      · refine pos (dt h1) ?_
        have := ih true
        rw [Bool.true_and] at this
        rw [show offB c p q (b.getD k (0, 0)) = true by unfold offB; rw [decide_eq_true h1]; rfl, Bool.true_and]
        exact this
      · refine neg (df h1) ?_
        cases c with
        | true =>
          refine pos rfl ?_
          have := ih (crI p q (b.getD k (0, 0)) == 0)
          rw [show offB true p q (b.getD k (0, 0)) = (crI p q (b.getD k (0, 0)) == 0) by unfold offB; rw [decide_eq_false h1]; rfl]
          exact this
        | false =>
          refine neg (by simp) ?_
          have := ih false
          rw [Bool.false_and] at this
          rw [show offB false p q (b.getD k (0, 0)) = false by unfold offB; rw [decide_eq_false h1]; rfl, Bool.false_and]
          exact this
theorem out_lp1 {A B a b : List IP} {C c : Bool} (ha : InsI a) (hb : InsI b) (hl : b.length ≤ 100) (hla : a.length ≤ 100) : ∀ (m i : Nat), i + m = a.length →
    overlap_outside_lp1 CG A B C a b c a (a.length : Int) (i : Int) = some [.val .bool (outTo a b c m i)]
  | 0, i, h => overlap_outside_lp1_st _ _ _ _ _ _ _ _ _ (neg (ige (by omega)) rfl)
  | m + 1, i, h => by
    have hi : i < a.length := by omega
    have hP : a ≠ [] := by rintro rfl; cases hi
    have hm := Nat.mod_lt (i + 1) (show 0 < a.length by omega)
    have ih := out_lp1 (A := A) (B := B) (C := C) (c := c) ha hb hl hla m (i + 1) (by omega)
    refine overlap_outside_lp1_st _ _ _ _ _ _ _ _ _ ?_
    have w1 := wrS (i := i) (by omega)
    have e1 : a.getD ((i + 1) % a.length) (0, 0) = nth a (i + 1) := rfl
    have e2 := nth_getD hi
    simp only [w1, tmod_nat, Int.toNat_natCast, e1, e2]
    refine pos (ilt hi) (pos (ixn hi) (pos (by omega) (pos (ixn hm) ?_)))
    have := out_lp2 (A := A) (B := B) (C := C) (c := c) (a := a) (b := b) (i := i) (n := (a.length : Int)) (res := outTo a b c m (i + 1)) hb hl (insP_of ha hP i) (insP_of ha hP (i + 1)) (by rw [w1]; exact ih) b.length 0 (by omega) true
    rw [List.drop_zero, Bool.true_and] at this
    exact this
theorem outside_ok {a b : List IP} {c : Bool} (ha : InsI a) (hb : InsI b) (hl : b.length ≤ 100) (hla : a.length ≤ 100) : callT CG [.v .bool] 149 [.val (.sl t0) a, .val (.sl t0) b, .val .bool c] = some (outB a b c) :=
  callT_of (overlap_outside_st a b c (out_lp1 ha hb hl hla a.length 0 (by omega))) rfl
def meet2 (a b : List IP) (c : Bool) : Bool := !outB a b c && !outB b a c
def meetL (one two : List (List IP)) (c : Bool) : Bool := one.any fun a => two.any fun b => meet2 a b c
def GoodT (l : List (List IP)) : Prop := l.length ≤ 100 ∧ ∀ t ∈ l, t.length = 3 ∧ InsI t
theorem meet_lp2 {A B one two : List (List IP)} {C c : Bool} (h2 : GoodT two) {a : List IP} (ha : a.length = 3 ∧ InsI a) {i : Nat} {n : Int} {res : Bool}
    (hn : overlap_meet_lp1 CG A B C two c one n (wr .i64 ((i : Int) + 1)) = some [.val .bool res]) : ∀ (m k : Nat), k + m = two.length →
    overlap_meet_lp2 CG A B C two c a one n (i : Int) two (two.length : Int) (k : Int) = some [.val .bool ((two.drop k).any (fun b => meet2 a b c) || res)]
  | 0, k, h => by
    refine overlap_meet_lp2_st _ _ _ _ _ _ _ _ _ _ _ _ (neg (ige (by omega)) ?_)
    rw [List.drop_of_length_le (by omega), List.any_nil, Bool.false_or]
    exact hn
  | m + 1, k, h => by
    have hk : k < two.length := by omega
    have := h2.1
    obtain ⟨b1, b2⟩ := h2.2 _ (getD_in hk [])
    have ih := meet_lp2 (A := A) (B := B) (C := C) h2 ha hn m (k + 1) (by omega)
    refine overlap_meet_lp2_st _ _ _ _ _ _ _ _ _ _ _ _ ?_
    rw [wrS (by omega), Int.toNat_natCast, drop_cons hk, ← getD_eq hk [], List.any_cons]
    generalize two.getD k [] = b at *
    refine pos (ilt hk) (pos (ixn hk) (bnd (outside_ok ha.2 b2 (by omega) (by omega)) ?_))
    have e : meet2 a b c = (!outB a b c && !outB b a c) := rfl
    rw [e]
    cases outB a b c with
    | true => exact neg (by simp) ih
    | false =>
      refine pos (by simp) (bnd (outside_ok b2 ha.2 (by omega) (by omega)) ?_)
      cases outB b a c with
      | true => exact neg (by simp) ih
      | false => exact pos (by simp) rfl
theorem meet_lp1 {A B one two : List (List IP)} {C c : Bool} (h1 : GoodT one) (h2 : GoodT two) : ∀ (m i : Nat), i + m = one.length →
    overlap_meet_lp1 CG A B C two c one (one.length : Int) (i : Int) = some [.val .bool ((one.drop i).any fun a => two.any fun b => meet2 a b c)]
  | 0, i, h => by
    refine overlap_meet_lp1_st _ _ _ _ _ _ _ _ (neg (ige (by omega)) ?_)
    rw [List.drop_of_length_le (by omega)]; rfl
  | m + 1, i, h => by
    have hi : i < one.length := by omega
    have := h1.1
    have ih := meet_lp1 (A := A) (B := B) (C := C) (c := c) h1 h2 m (i + 1) (by omega)
    refine overlap_meet_lp1_st _ _ _ _ _ _ _ _ ?_
    rw [Int.toNat_natCast, drop_cons hi, ← getD_eq hi [], List.any_cons]
    refine pos (ilt hi) (pos (ixn hi) ?_)
    have := meet_lp2 (A := A) (B := B) (C := C) (c := c) (one := one) (i := i) (n := (one.length : Int)) h2 (h1.2 _ (getD_in hi [])) (by rw [wrS (by omega)]; exact ih) two.length 0 (by omega)
    rw [List.drop_zero] at this
    exact this
theorem pmeet_ok {one two : List (List IP)} {c : Bool} (h1 : GoodT one) (h2 : GoodT two) : callT CG [.v .bool] 148 [.val (.sl (.sl t0)) one, .val (.sl (.sl t0)) two, .val .bool c] = some (meetL one two c) :=
  callT_of (overlap_meet_st one two c (meet_lp1 h1 h2 one.length 0 (by omega))) rfl
theorem triE_good (P : List IP) : GoodT (triE P) := by
  refine ⟨by have := triE_len P; omega, fun t ht => ?_⟩
  by_cases h : chk P = 0
  · obtain ⟨h1, h2⟩ := triE_mem h t ht
    exact ⟨h1, fun s hs => (chk_in h).2.2.1 s (h2 s hs)⟩
  · unfold triE at ht; rw [if_neg h] at ht; cases ht
noncomputable def err2 (a b : List IP) : Int := if chk a ≠ 0 then chk a else chk b
theorem osplit_ok (a b : List IP) : callT CG [.o (.sl t0), .o (.sl t0), .v tI] 147 [.val (.sl t0) a, .val (.sl t0) b] = some (if chk a ≠ 0 then ([], ([], chk a)) else (triE a, (triE b, chk b))) := by
  by_cases h : chk a = 0
  · rw [if_neg (by simp [h])]
    exact callT_of (overlap_split_st a b (bnd (ptri_ok a) (neg (nz h) (bnd (ptri_ok b) rfl)))) rfl
  · rw [if_pos h]
    exact callT_of (overlap_split_st a b (bnd (ptri_ok a) (pos (nn0 h) rfl))) rfl
noncomputable def ovl (a b : List IP) : Bool := if err2 a b = 0 then meetL (triE a) (triE b) true else false
noncomputable def tch (a b : List IP) : Bool := if err2 a b = 0 then !meetL (triE a) (triE b) true && meetL (triE a) (triE b) false else false
theorem err2_zero {a b : List IP} : err2 a b = 0 ↔ chk a = 0 ∧ chk b = 0 := by
  unfold err2
  by_cases h : chk a = 0
  · rw [if_neg (by simp [h])]; simp [h]
  · rw [if_pos h]; simp [h]
theorem overlap_ok (a b : List IP) : callT CG [.v .bool, .v tI] 139 [.val (.sl t0) a, .val (.sl t0) b] = some (ovl a b, err2 a b) := by
  refine callT_of (overlap_Overlap_st a b (r := [.val .bool (ovl a b), .val tI (err2 a b)]) ?_) rfl
  refine bnd (osplit_ok a b) ?_
  unfold ovl err2
  by_cases h : chk a = 0
  · simp only [h, ne_eq, not_true_eq_false, if_false]
    by_cases h2 : chk b = 0
    · rw [if_pos h2, h2]
      exact neg (by simp) (bnd (pmeet_ok (triE_good a) (triE_good b)) rfl)
    · refine pos (nn0 h2) ?_
      rw [if_neg h2]
  · simp only [h, ne_eq, not_false_eq_true, if_true]
    refine pos (nn0 h) ?_
    rw [if_neg (by simp)]
theorem touch_ok (a b : List IP) : callT CG [.v .bool, .v tI] 141 [.val (.sl t0) a, .val (.sl t0) b] = some (tch a b, err2 a b) := by
  refine callT_of (overlap_Touch_st a b (r := [.val .bool (tch a b), .val tI (err2 a b)]) ?_) rfl
  refine bnd (osplit_ok a b) ?_
  unfold tch err2
  by_cases h : chk a = 0
  · simp only [h, ne_eq, not_true_eq_false, if_false]
    by_cases h2 : chk b = 0
    · rw [if_pos h2, h2]
      refine neg (by simp) (bnd (pmeet_ok (triE_good a) (triE_good b)) ?_)
      cases meetL (triE a) (triE b) true with
      | true => exact neg (by simp) rfl
      | false => exact pos (by simp) (bnd (pmeet_ok (triE_good a) (triE_good b)) rfl)
    · refine pos (nn0 h2) ?_
      rw [if_neg h2]
  · simp only [h, ne_eq, not_false_eq_true, if_true]
    refine pos (nn0 h) ?_
    rw [if_neg (by simp)]
def clipM (x w : Int) : Int × (Int × Bool) := if x ≥ 1048576 then (0, (0, false)) else (max (-1048576) x, (min 1048576 (x + w), decide (max (-1048576) x < min 1048576 (x + w))))
theorem clip_ok {x w : Int} (hx : wf tI x) (hw : wf tI w) (h1 : 1 ≤ w) : callT CG [.v tI, .v tI, .v .bool] 150 [.val tI x, .val tI w] = some (clipM x w) := by
  have bx : (Lit.int .i64 x).wf = true := hx
  have bw : (Lit.int .i64 w).wf = true := hw
  simp [Lit.wf, IntKind.min, IntKind.max, IntKind.bits, IntKind.signed] at bx bw
  refine callT_of (overlap_clip_st x w (r := [.val tI (clipM x w).1, .val tI (clipM x w).2.1, .val .bool (clipM x w).2.2]) ?_) rfl
  unfold clipM
  by_cases h2 : x ≥ 1048576
  · refine pos (dt h2) ?_; rw [if_pos h2]
  refine neg (df h2) ?_
  rw [if_neg h2]
  dsimp only
  rw [show (if (-1048576 : Int) > x then (-1048576 : Int) else x) = max (-1048576) x by omega]
  by_cases h3 : x < 0
  · refine pos (dt h3) ?_
    rw [wr64 (x := x + w) (by omega) (by omega), show (if (1048576 : Int) < x + w then (1048576 : Int) else x + w) = min 1048576 (x + w) by omega]
  · refine neg (df h3) ?_
    rw [wr64 (x := 1048576 - x) (by omega) (by omega)]
    by_cases h4 : w < 1048576 - x
    · refine pos (dt h4) ?_
      rw [wr64 (x := x + w) (by omega) (by omega), show (if (1048576 : Int) < x + w then (1048576 : Int) else x + w) = min 1048576 (x + w) by omega]
    · refine neg (df h4) ?_
      rw [show min 1048576 (x + w) = 1048576 by omega]
def boxP (x y z w : Int) : List IP := [(x, y), (z, y), (z, w), (x, w)]
noncomputable def hitM (P : List IP) (r : Int × (Int × (Int × Int))) : Bool := if chk P = 0 ∧ 1 ≤ r.2.2.1 ∧ 1 ≤ r.2.2.2 ∧ (clipM r.1 r.2.2.1).2.2 = true ∧ (clipM r.2.1 r.2.2.2).2.2 = true then ovl P (boxP (clipM r.1 r.2.2.1).1 (clipM r.2.1 r.2.2.2).1 (clipM r.1 r.2.2.1).2.1 (clipM r.2.1 r.2.2.2).2.1) else false
theorem hits_ok {P : List IP} {r : Int × (Int × (Int × Int))} (hr : wf t8 r) (hbox : ∀ x y z w : Int, insI x → insI y → insI z → insI w → x < z → y < w → chk (boxP x y z w) = 0) : callT CG [.v .bool, .v tI] 145 [.val (.sl t0) P, .val t8 r] = some (hitM P r, chk P) := by
  obtain ⟨r1, r2, r3, r4⟩ := hr
  refine callT_of (overlap_Hits_st P r (r := [.val .bool (hitM P r), .val tI (chk P)]) ?_) rfl
  refine bnd (check_ok P) ?_
  by_cases h : chk P = 0
  · refine neg (nz h) ?_
    rw [h]
    have no : ¬ (chk P = 0 ∧ 1 ≤ r.2.2.1 ∧ 1 ≤ r.2.2.2 ∧ (clipM r.1 r.2.2.1).2.2 = true ∧ (clipM r.2.1 r.2.2.2).2.2 = true) → some [D.val .bool false, .val tI 0] = some [D.val .bool (hitM P r), .val tI 0] := fun hn => by rw [show hitM P r = false from if_neg hn]
    by_cases h1 : r.2.2.1 < 1
    · exact pos (dt h1) (no fun k => by have := k.2.1; omega)
    refine neg (df h1) ?_
    by_cases h2 : r.2.2.2 < 1
    · exact pos (dt h2) (no fun k => by have := k.2.2.1; omega)
    refine neg (df h2) (bnd (clip_ok r1 r3 (by omega)) (bnd (clip_ok r2 r4 (by omega)) ?_))
    by_cases h3 : (clipM r.1 r.2.2.1).2.2 = true
    · refine neg (by rw [h3]; simp) ?_
      by_cases h4 : (clipM r.2.1 r.2.2.2).2.2 = true
      · refine neg (by rw [h4]; simp) (bnd (overlap_ok _ _) ?_)
        have e : hitM P r = ovl P (boxP (clipM r.1 r.2.2.1).1 (clipM r.2.1 r.2.2.2).1 (clipM r.1 r.2.2.1).2.1 (clipM r.2.1 r.2.2.2).2.1) := if_pos ⟨h, by omega, by omega, h3, h4⟩
        have bnds : ∀ x w : Int, 1 ≤ w → (clipM x w).2.2 = true → insI (clipM x w).1 ∧ insI (clipM x w).2.1 ∧ (clipM x w).1 < (clipM x w).2.1 := fun x w hw hc => by
          unfold clipM at hc ⊢
          by_cases hx : x ≥ 1048576
          · rw [if_pos hx] at hc; cases hc
          · rw [if_neg hx] at hc ⊢
            have := of_decide_eq_true hc
            unfold insI
            simp only
            omega
        obtain ⟨a1, a2, a3⟩ := bnds _ _ (by omega) h3
        obtain ⟨b1, b2, b3⟩ := bnds _ _ (by omega) h4
        have hz : err2 P (boxP (clipM r.1 r.2.2.1).1 (clipM r.2.1 r.2.2.2).1 (clipM r.1 r.2.2.1).2.1 (clipM r.2.1 r.2.2.2).2.1) = 0 := err2_zero.2 ⟨h, hbox _ _ _ _ a1 b1 a2 b2 a3 b3⟩
        rw [e]
        show some [D.val .bool (ovl P (boxP (clipM r.1 r.2.2.1).1 (clipM r.2.1 r.2.2.2).1 (clipM r.1 r.2.2.1).2.1 (clipM r.2.1 r.2.2.2).2.1)), .val tI (err2 P (boxP (clipM r.1 r.2.2.1).1 (clipM r.2.1 r.2.2.2).1 (clipM r.1 r.2.2.1).2.1 (clipM r.2.1 r.2.2.2).2.1))] = _
        rw [hz]
      · exact pos (by rw [Bool.not_eq_true] at h4; rw [h4]; rfl) (no fun k => h4 k.2.2.2.2)
    · exact pos (by rw [Bool.not_eq_true] at h3; rw [h3]; rfl) (no fun k => h3 k.2.2.2.1)
  · refine pos (nn0 h) ?_
    rw [show hitM P r = false from if_neg fun k => h k.1]
end Pl
end
section
/- Running with the triangles and boxes of polygons known. -/
namespace Pl
open Go Geo Pm
def triB (P : List IP) : List (List IP) := cond (chkB P == 0) (spl 60 (nrm P)) []
theorem triB_eq (P : List IP) : triB P = triE P := by
  unfold triB triE
  rw [chkB_eq]
  by_cases h : chk P = 0
  · rw [if_pos h, h]; rfl
  · rw [if_neg h, show (chk P == 0) = false from by simpa using h]; rfl
end Pl
end
section
/- Chapter 15: rectangles; the examples. -/
namespace Pl
open Go Geo Pm
theorem rect_chk (x y z w : Int) (hx : insI x) (hy : insI y) (hz : insI z) (hw : insI w) (h1 : x < z) (h2 : y < w) : chk (boxP x y z w) = 0 := by
  have hK : 0 < (z - x) * (w - y) := Int.mul_pos (by omega) (by omega)
  have hn : ∀ i, i < 4 → nth (boxP x y z w) i = (boxP x y z w).getD i (0, 0) := fun i hi => by unfold nth; rw [show (boxP x y z w).length = 4 from rfl, Nat.mod_eq_of_lt hi]
  have n0 : nth (boxP x y z w) 0 = (x, y) := hn 0 (by omega)
  have n1 : nth (boxP x y z w) 1 = (z, y) := hn 1 (by omega)
  have n2 : nth (boxP x y z w) 2 = (z, w) := hn 2 (by omega)
  have n3 : nth (boxP x y z w) 3 = (x, w) := hn 3 (by omega)
  have n4 : nth (boxP x y z w) 4 = (x, y) := by rw [← n0]; exact nth_per _ 0
  have n5 : nth (boxP x y z w) 5 = (z, y) := by rw [← n1]; exact nth_per _ 1
  refine chk_ok.2 ⟨by simp [boxP], by simp [boxP], fun s hs => ?_, ?_⟩
  · unfold boxP at hs
    simp only [List.mem_cons, List.not_mem_nil, or_false] at hs
    rcases hs with rfl | rfl | rfl | rfl <;> exact ⟨by assumption, by assumption⟩
  · have bet : ∀ a b q : IP, crI a b q ≠ 0 → ¬ BetI a b q := fun a b q h k => h k.1
    have meet : ∀ a b c d : IP, crI a b c > 0 → crI a b d > 0 → crI c d a > 0 → crI c d b > 0 → ¬ MeetI a b c d := fun a b c d k1 k2 k3 k4 k => by
      rcases k with k | k | k | k | ⟨k, _⟩
      · exact bet _ _ _ (by omega) k
      · exact bet _ _ _ (by omega) k
      · exact bet _ _ _ (by omega) k
      · exact bet _ _ _ (by omega) k
      · unfold DivI at k; omega
    have c : ∀ a b c : IP, (crI a b c = (z - x) * (w - y)) → crI a b c > 0 := fun a b c e => by rw [e]; exact hK
    intro i hi
    have hi : i < 4 := hi
    have key : nth (boxP x y z w) i ≠ nth (boxP x y z w) (i + 1) ∧ ¬ BetI (nth (boxP x y z w) i) (nth (boxP x y z w) (i + 1)) (nth (boxP x y z w) (i + 2)) ∧ ¬ BetI (nth (boxP x y z w) (i + 1)) (nth (boxP x y z w) (i + 2)) (nth (boxP x y z w) i) := by
      match i, hi with
      | 0, _ => rw [n0, show nth (boxP x y z w) (0 + 1) = (z, y) from n1, show nth (boxP x y z w) (0 + 2) = (z, w) from n2]
                refine ⟨fun e => by injection e; omega, bet _ _ _ (by have := c (x, y) (z, y) (z, w) (by unfold crI; simp only; grind); omega), bet _ _ _ (by have := c (z, y) (z, w) (x, y) (by unfold crI; simp only; grind); omega)⟩
      | 1, _ => rw [n1, show nth (boxP x y z w) (1 + 1) = (z, w) from n2, show nth (boxP x y z w) (1 + 2) = (x, w) from n3]
                refine ⟨fun e => by injection e; omega, bet _ _ _ (by have := c (z, y) (z, w) (x, w) (by unfold crI; simp only; grind); omega), bet _ _ _ (by have := c (z, w) (x, w) (z, y) (by unfold crI; simp only; grind); omega)⟩
      | 2, _ => rw [n2, show nth (boxP x y z w) (2 + 1) = (x, w) from n3, show nth (boxP x y z w) (2 + 2) = (x, y) from n4]
                refine ⟨fun e => by injection e; omega, bet _ _ _ (by have := c (z, w) (x, w) (x, y) (by unfold crI; simp only; grind); omega), bet _ _ _ (by have := c (x, w) (x, y) (z, w) (by unfold crI; simp only; grind); omega)⟩
      | 3, _ => rw [n3, show nth (boxP x y z w) (3 + 1) = (x, y) from n4, show nth (boxP x y z w) (3 + 2) = (z, y) from n5]
                refine ⟨fun e => by injection e; omega, bet _ _ _ (by have := c (x, w) (x, y) (z, y) (by unfold crI; simp only; grind); omega), bet _ _ _ (by have := c (x, y) (z, y) (x, w) (by unfold crI; simp only; grind); omega)⟩
    refine ⟨key.1, key.2.1, key.2.2, fun k k1 k2 k3 => ?_⟩
    have k2 : k < 4 := k2
    have k3 : ¬ (i = 0 ∧ k = 3) := k3
    have hik : (i = 0 ∧ k = 2) ∨ (i = 1 ∧ k = 3) := by omega
    rcases hik with ⟨rfl, rfl⟩ | ⟨rfl, rfl⟩
    · rw [n0, show nth (boxP x y z w) (0 + 1) = (z, y) from n1, n2, show nth (boxP x y z w) (2 + 1) = (x, w) from n3]
      exact meet _ _ _ _ (c _ _ _ (by unfold crI; simp only; grind)) (c _ _ _ (by unfold crI; simp only; grind)) (c _ _ _ (by unfold crI; simp only; grind)) (c _ _ _ (by unfold crI; simp only; grind))
    · rw [n1, show nth (boxP x y z w) (1 + 1) = (z, w) from n2, n3, show nth (boxP x y z w) (3 + 1) = (x, y) from n4]
      exact meet _ _ _ _ (c _ _ _ (by unfold crI; simp only; grind)) (c _ _ _ (by unfold crI; simp only; grind)) (c _ _ _ (by unfold crI; simp only; grind)) (c _ _ _ (by unfold crI; simp only; grind))
theorem hit_ok {P : List IP} {r : Int × (Int × (Int × Int))} (hr : wf t8 r) : callT CG [.v .bool, .v tI] 145 [.val (.sl t0) P, .val t8 r] = some (hitM P r, chk P) := hits_ok hr rect_chk
theorem rect_ok (x y z w : Int) : callT CG [.o t0] 144 [.val tI x, .val tI y, .val tI z, .val tI w] = some (boxP x y z w) := callT_of (garmentlaw15_rect_st x y z w rfl) rfl
/-- the same, by computing -/
def err2B (a b : List IP) : Int := cond (chkB a == 0) (chkB b) (chkB a)
def ovlB (a b : List IP) : Bool := cond (err2B a b == 0) (meetL (triB a) (triB b) true) false
def tchB (a b : List IP) : Bool := cond (err2B a b == 0) (!meetL (triB a) (triB b) true && meetL (triB a) (triB b) false) false
theorem err2B_eq (a b : List IP) : err2B a b = err2 a b := by
  unfold err2B err2
  rw [chkB_eq, chkB_eq]
  by_cases h : chk a = 0
  · rw [if_neg (by simp [h]), h]; rfl
  · rw [if_pos h, show (chk a == 0) = false from by simpa using h]; rfl
theorem ovlB_eq (a b : List IP) : ovlB a b = ovl a b := by
  unfold ovlB ovl
  rw [err2B_eq, triB_eq, triB_eq]
  by_cases h : err2 a b = 0
  · rw [if_pos h, h]; rfl
  · rw [if_neg h, show (err2 a b == 0) = false from by simpa using h]; rfl
theorem tchB_eq (a b : List IP) : tchB a b = tch a b := by
  unfold tchB tch
  rw [err2B_eq, triB_eq, triB_eq]
  by_cases h : err2 a b = 0
  · rw [if_pos h, h]; rfl
  · rw [if_neg h, show (err2 a b == 0) = false from by simpa using h]; rfl
theorem ex15_o1 : ovl (boxP 0 0 4 4) (boxP 3 3 6 6) = true ∧ err2 (boxP 0 0 4 4) (boxP 3 3 6 6) = 0 := by rw [← ovlB_eq, ← err2B_eq]; decide +kernel
theorem ex15_o2 : ovl (boxP 0 0 4 4) (boxP 4 0 8 4) = false ∧ err2 (boxP 0 0 4 4) (boxP 4 0 8 4) = 0 := by rw [← ovlB_eq, ← err2B_eq]; decide +kernel
theorem ex15_t1 : tch (boxP 0 0 4 4) (boxP 4 4 5 5) = true ∧ err2 (boxP 0 0 4 4) (boxP 4 4 5 5) = 0 := by rw [← tchB_eq, ← err2B_eq]; decide +kernel
theorem ex15_t2 : tch (boxP 0 0 4 4) (boxP 5 0 6 1) = false ∧ err2 (boxP 0 0 4 4) (boxP 5 0 6 1) = 0 := by rw [← tchB_eq, ← err2B_eq]; decide +kernel
theorem ex15_c : chk [(0, 0), (4, 0), (0, 4)] = 0 := by rw [← chkB_eq]; decide +kernel
theorem ex15_h1 : hitM [(0, 0), (4, 0), (0, 4)] (2, (2, (2, 2))) = false := by
  have e : hitM [(0, 0), (4, 0), (0, 4)] (2, (2, (2, 2))) = ovl [(0, 0), (4, 0), (0, 4)] (boxP 2 2 4 4) := if_pos ⟨ex15_c, by decide, by decide, by decide, by decide⟩
  rw [e, ← ovlB_eq]; decide +kernel
theorem ex15_h2 : hitM [(0, 0), (4, 0), (0, 4)] (1, (2, (3, 2))) = true := by
  have e : hitM [(0, 0), (4, 0), (0, 4)] (1, (2, (3, 2))) = ovl [(0, 0), (4, 0), (0, 4)] (boxP 1 2 4 4) := if_pos ⟨ex15_c, by decide, by decide, by decide, by decide⟩
  rw [e, ← ovlB_eq]; decide +kernel
theorem ex15_x1 : crosM [(0, 0), (4, 0), (0, 4)] 1 = true := (if_pos ex15_c).trans (by decide)
theorem ex15_x0 : crosM [(0, 0), (4, 0), (0, 4)] 0 = false := (if_pos ex15_c).trans (by decide)
theorem ex15_e : err2 (boxP 0 0 4 4) ((boxP 0 0 4 4).take 2) = 11 := by rw [← err2B_eq]; decide +kernel
theorem wf8 (a b c d : Int) (h : (-100 ≤ a ∧ a ≤ 100) ∧ (-100 ≤ b ∧ b ≤ 100) ∧ (-100 ≤ c ∧ c ≤ 100) ∧ (-100 ≤ d ∧ d ≤ 100)) : wf t8 (a, (b, (c, d))) := by
  have k : ∀ n : Int, -100 ≤ n ∧ n ≤ 100 → (Lit.int .i64 n).wf = true := fun n hn => by
    simp [Lit.wf, IntKind.min, IntKind.max, IntKind.bits, IntKind.signed]; omega
  exact ⟨k a h.1, k b h.2.1, k c h.2.2.1, k d h.2.2.2⟩
theorem example15_ok : callT CG [.v .bool] 138 [] = some true := by
  refine callT_of (garmentlaw15_exampleHolds_st (r := [.val .bool true]) ?_) rfl
  refine bnd (rect_ok 0 0 4 4) (bnd (rect_ok 3 3 6 6) (bnd (overlap_ok _ _) (bnd (rect_ok 4 0 8 4) (bnd (overlap_ok _ _) (bnd (rect_ok 4 4 5 5) (bnd (touch_ok _ _) (bnd (rect_ok 5 0 6 1) (bnd (touch_ok _ _) (bnd (hit_ok (wf8 2 2 2 2 (by omega))) (bnd (hit_ok (wf8 1 2 3 2 (by omega))) (bnd (crosses_ok _ 1) (bnd (crosses_ok _ 0) (pos (by simp [boxP]) (bnd (overlap_ok _ _) ?_))))))))))))))
  rw [ex15_o1.1, ex15_o1.2, ex15_o2.1, ex15_o2.2, ex15_t1.1, ex15_t1.2, ex15_t2.1, ex15_t2.2, ex15_h1, ex15_h2, ex15_c, ex15_x1, ex15_x0, show Int.toNat (2 : Int) = 2 from rfl, ex15_e]
  rfl
end Pl
end
section
/- OverlapCrosses: Crosses returns the result or error that the reference returns, for all lists of at most 40 spots and all lines. -/
namespace Pl
open Go Geo Pm
theorem OverlapCrosses_pure (P : List IP) (x : Int) (w0 : wf (.sl t0) P) (w1 : wf tI x) : CG 167 [.val (.sl t0) P, .val tI x] = some [.val .bool true] := by
  refine garmentlaw15_OverlapCrosses_st P x ?_
  by_cases h : 40 < P.length
  · exact pos (dt (by omega)) (bnd example15_ok rfl)
  · exact neg (df (by omega)) (bnd (crosses_ok P x) (bnd (rcrosses_ok P x) (pos (by simp) (pos (by simp) (bnd example15_ok rfl)))))
end Pl
end
