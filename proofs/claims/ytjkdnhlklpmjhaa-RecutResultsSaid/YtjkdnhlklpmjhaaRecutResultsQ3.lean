/- Parts of the proof of RecutResults, joined: C43b, K11, C43c, LRecutResults. -/
import Derived.Test.YtjkdnhlklpmjhaaRecutResultsQ2
set_option linter.unusedVariables false
set_option linter.unusedSimpArgs false
section
/- Chapter 43: needs, and what is replaced. -/
namespace Pl
open Go Geo Pm
theorem nz {x : Int} (h : x = 0) : ¬ (x != 0) = true := by simp [h]
theorem nn0 {x : Int} (h : x ≠ 0) : (x != 0) = true := by simp [h]
abbrev Polys := List (List IP)
def dam (c : Cut) : Bool := c.2.2.2.2.2
noncomputable def wid (polys : Polys) (c : Cut) : Int := (boxI (polys.getD c.2.1.toNat [])).2.2.1
noncomputable def nerr (polys : Polys) (c : Cut) : Int := if 0 ≤ c.2.1 ∧ c.2.1 < (polys.length : Int) then chk (polys.getD c.2.1.toNat []) else 3
/-- the needs, their places, the error -/
noncomputable def ned (polys : Polys) : List Cut → Nat → List Need × (List Int × Int)
  | [], _ => ([], ([], 0))
  | c :: cs, i => if dam c = false then ned polys cs (i + 1) else if nerr polys c ≠ 0 then ([], ([], nerr polys c)) else
    if (ned polys cs (i + 1)).2.2 ≠ 0 then ([], ([], (ned polys cs (i + 1)).2.2)) else ((c.2.2.1, wid polys c) :: (ned polys cs (i + 1)).1, ((i : Int) :: (ned polys cs (i + 1)).2.1, 0))
theorem ned_f {polys : Polys} {c : Cut} {cs : List Cut} {i : Nat} (h : dam c = false) : ned polys (c :: cs) i = ned polys cs (i + 1) := by rw [ned, if_pos h]
theorem ned_e {polys : Polys} {c : Cut} {cs : List Cut} {i : Nat} (h : dam c = true) (h2 : nerr polys c ≠ 0) : ned polys (c :: cs) i = ([], ([], nerr polys c)) := by rw [ned, if_neg (by simp [h]), if_pos h2]
theorem ned_t {polys : Polys} {c : Cut} {cs : List Cut} {i : Nat} (h : dam c = true) (h2 : nerr polys c = 0) (h3 : (ned polys cs (i + 1)).2.2 ≠ 0) : ned polys (c :: cs) i = ([], ([], (ned polys cs (i + 1)).2.2)) := by rw [ned, if_neg (by simp [h]), if_neg (by simp [h2]), if_pos h3]
theorem ned_k {polys : Polys} {c : Cut} {cs : List Cut} {i : Nat} (h : dam c = true) (h2 : nerr polys c = 0) (h3 : (ned polys cs (i + 1)).2.2 = 0) : ned polys (c :: cs) i = ((c.2.2.1, wid polys c) :: (ned polys cs (i + 1)).1, ((i : Int) :: (ned polys cs (i + 1)).2.1, 0)) := by rw [ned, if_neg (by simp [h]), if_neg (by simp [h2]), if_neg (by simp [h3])]
def fin3 (a : List Need) (b : List Int) (r : List Need × (List Int × Int)) : List Need × (List Int × Int) := if r.2.2 ≠ 0 then ([], ([], r.2.2)) else (a ++ r.1, (b ++ r.2.1, 0))
theorem ned_len (polys : Polys) : ∀ (cs : List Cut) (i : Nat), (ned polys cs i).1.length = (ned polys cs i).2.1.length ∧ (ned polys cs i).1.length ≤ cs.length
  | [], i => by simp [ned]
  | c :: cs, i => by
    have := ned_len polys cs (i + 1)
    unfold ned
    (repeat' split) <;> simp <;> omega
theorem needs_lp {polys : Polys} {cuts : List Cut} (hl : cuts.length < 4398046511104) : ∀ (m i : Nat), i + m = cuts.length → ∀ (a : List Need) (b : List Int), a.length ≤ i → b.length ≤ i →
    recut_Needs_lp1 CG cuts polys polys cuts (cuts.length : Int) (i : Int) a b = some [.own t0 (fin3 a b (ned polys (cuts.drop i) i)).1, .own tI (fin3 a b (ned polys (cuts.drop i) i)).2.1, .val tI (fin3 a b (ned polys (cuts.drop i) i)).2.2]
  | 0, i, h, a, b, ha, hb => by
    refine recut_Needs_lp1_st _ _ _ _ _ _ _ _ ?_
    refine neg (ige (by omega)) ?_
    rw [List.drop_of_length_le (by omega)]
    simp [ned, fin3]
  | m + 1, i, h, a, b, ha, hb => by
    have hi : i < cuts.length := by omega
    refine recut_Needs_lp1_st _ _ _ _ _ _ _ _ ?_
    rw [Int.toNat_natCast, getD_eq hi, wrS (by omega), drop_cons hi]
    refine pos (ilt hi) (pos (ixn hi) ?_)
    generalize cuts[i] = c
    have ih := fun a b ha hb => needs_lp (polys := polys) hl m (i + 1) (by omega) a b ha hb
    cases hd : dam c with
    | false => rw [ned_f hd]; exact pos (by rw [show c.2.2.2.2.2 = false from hd]; rfl) (ih a b (by omega) (by omega))
    | true =>
      refine neg (by rw [show c.2.2.2.2.2 = true from hd]; simp) ?_
      have bad : nerr polys c = 3 → some [D.own t0 [], .own tI [], .val tI 3] = some [D.own t0 (fin3 a b (ned polys (c :: cuts.drop (i + 1)) i)).1, .own tI (fin3 a b (ned polys (c :: cuts.drop (i + 1)) i)).2.1, .val tI (fin3 a b (ned polys (c :: cuts.drop (i + 1)) i)).2.2] := fun h => by
        rw [ned_e hd (by omega), h]; rfl
      by_cases h1 : c.2.1 < 0
      · exact pos (dt h1) (bad (if_neg (by omega)))
      refine neg (df h1) ?_
      by_cases h2 : c.2.1 ≥ (polys.length : Int)
      · exact pos (dt h2) (bad (if_neg (by omega)))
      refine neg (df h2) (pos (by omega) (bnd (box_ok _) ?_))
      have hn : nerr polys c = chk (polys.getD c.2.1.toNat []) := if_pos (by omega)
      by_cases h3 : chk (polys.getD c.2.1.toNat []) = 0
      · refine neg (nz h3) (pos (by simp; omega) (pos (by simp; omega) ?_))
        refine (ih (a ++ [(c.2.2.1, wid polys c)]) (b ++ [(i : Int)]) (by simp; omega) (by simp; omega)).trans ?_
        by_cases h4 : (ned polys (cuts.drop (i + 1)) (i + 1)).2.2 = 0
        · rw [ned_k hd (by rw [hn, h3]) h4]
          simp [fin3, h4]
        · rw [ned_t hd (by rw [hn, h3]) h4]
          simp [fin3, h4]
      · refine pos (nn0 h3) ?_
        rw [ned_e hd (by rw [hn]; exact h3), hn]
        unfold fin3
        rw [if_pos h3]
theorem fin3_nil (r : List Need × (List Int × Int)) (h : r.2.2 ≠ 0 → r = ([], ([], r.2.2))) : fin3 [] [] r = r := by
  unfold fin3
  by_cases h1 : r.2.2 = 0
  · rw [if_neg (by simp [h1]), ← h1]; rfl
  · rw [if_pos h1]; exact (h h1).symm
theorem ned_err (polys : Polys) : ∀ (cs : List Cut) (i : Nat), (ned polys cs i).2.2 ≠ 0 → ned polys cs i = ([], ([], (ned polys cs i).2.2))
  | [], i, h => absurd rfl h
  | c :: cs, i, h => by
    have ih := ned_err polys cs (i + 1)
    cases hd : dam c with
    | false => rw [ned_f hd] at h ⊢; exact ih h
    | true =>
      by_cases h2 : nerr polys c = 0
      · by_cases h3 : (ned polys cs (i + 1)).2.2 = 0
        · rw [ned_k hd h2 h3] at h; exact absurd rfl h
        · rw [ned_t hd h2 h3]
      · rw [ned_e hd h2]
theorem needs_ok {polys : Polys} {cuts : List Cut} (hl : cuts.length < 4398046511104) : callT CG [.o t0, .o tI, .v tI] 55 [.val (.sl t6) cuts, .val (.sl (.sl t0)) polys] = some (ned polys cuts 0) := by
  refine callT_of (recut_Needs_st cuts polys (r := [.own t0 (ned polys cuts 0).1, .own tI (ned polys cuts 0).2.1, .val tI (ned polys cuts 0).2.2]) ?_) rfl
  have := needs_lp (polys := polys) hl cuts.length 0 (by omega) [] [] (by simp) (by simp)
  rw [List.drop_zero, fin3_nil _ (ned_err polys cuts 0)] at this
  exact this
theorem rneeds_lp {polys : Polys} {cuts : List Cut} (hl : cuts.length < 4398046511104) : ∀ (m i : Nat), i + m = cuts.length → ∀ (a : List Need) (b : List Int), a.length ≤ i → b.length ≤ i →
    garmentref43_Needs_lp1 CG cuts polys cuts polys (i : Int) a b = some [.own t0 (fin3 a b (ned polys (cuts.drop i) i)).1, .own tI (fin3 a b (ned polys (cuts.drop i) i)).2.1, .val tI (fin3 a b (ned polys (cuts.drop i) i)).2.2]
  | 0, i, h, a, b, ha, hb => by
    refine garmentref43_Needs_lp1_st _ _ _ _ _ _ _ ?_
    refine neg (ige (by omega)) ?_
    rw [List.drop_of_length_le (by omega)]
    simp [ned, fin3]
  | m + 1, i, h, a, b, ha, hb => by
    have hi : i < cuts.length := by omega
    refine garmentref43_Needs_lp1_st _ _ _ _ _ _ _ ?_
    rw [Int.toNat_natCast, getD_eq hi, wrS (by omega), drop_cons hi]
    refine pos (ilt hi) (pos (ixn hi) ?_)
    generalize cuts[i] = c
    have ih := fun a b ha hb => rneeds_lp (polys := polys) hl m (i + 1) (by omega) a b ha hb
    cases hd : dam c with
    | false => rw [ned_f hd]; exact pos (by rw [show c.2.2.2.2.2 = false from hd]; rfl) (ih a b (by omega) (by omega))
    | true =>
      refine neg (by rw [show c.2.2.2.2.2 = true from hd]; simp) ?_
      have bad : nerr polys c = 3 → some [D.own t0 [], .own tI [], .val tI 3] = some [D.own t0 (fin3 a b (ned polys (c :: cuts.drop (i + 1)) i)).1, .own tI (fin3 a b (ned polys (c :: cuts.drop (i + 1)) i)).2.1, .val tI (fin3 a b (ned polys (c :: cuts.drop (i + 1)) i)).2.2] := fun h => by
        rw [ned_e hd (by omega), h]; rfl
      by_cases h1 : c.2.1 < 0
      · exact pos (dt h1) (bad (if_neg (by omega)))
      refine neg (df h1) ?_
      by_cases h2 : c.2.1 ≥ (polys.length : Int)
      · exact pos (dt h2) (bad (if_neg (by omega)))
      refine neg (df h2) (pos (by omega) (bnd (rbox_ok _) ?_))
      have hn : nerr polys c = chk (polys.getD c.2.1.toNat []) := if_pos (by omega)
      by_cases h3 : chk (polys.getD c.2.1.toNat []) = 0
      · refine neg (nz h3) (pos (by simp; omega) (pos (by simp; omega) ?_))
        refine (ih (a ++ [(c.2.2.1, wid polys c)]) (b ++ [(i : Int)]) (by simp; omega) (by simp; omega)).trans ?_
        by_cases h4 : (ned polys (cuts.drop (i + 1)) (i + 1)).2.2 = 0
        · rw [ned_k hd (by rw [hn, h3]) h4]
          simp [fin3, h4]
        · rw [ned_t hd (by rw [hn, h3]) h4]
          simp [fin3, h4]
      · refine pos (nn0 h3) ?_
        rw [ned_e hd (by rw [hn]; exact h3), hn]
        unfold fin3
        rw [if_pos h3]
theorem rneeds_ok {polys : Polys} {cuts : List Cut} (hl : cuts.length < 4398046511104) : callT CG [.o t0, .o tI, .v tI] 64 [.val (.sl t6) cuts, .val (.sl (.sl t0)) polys] = some (ned polys cuts 0) := by
  refine callT_of (garmentref43_Needs_st cuts polys (r := [.own t0 (ned polys cuts 0).1, .own tI (ned polys cuts 0).2.1, .val tI (ned polys cuts 0).2.2]) ?_) rfl
  have := rneeds_lp (polys := polys) hl cuts.length 0 (by omega) [] [] (by simp) (by simp)
  rw [List.drop_zero, fin3_nil _ (ned_err polys cuts 0)] at this
  exact this
/-- the places of needs: in range, and rising -/
theorem ned_at (polys : Polys) : ∀ (cs : List Cut) (i : Nat), ∀ x ∈ (ned polys cs i).2.1, (i : Int) ≤ x ∧ x < ((i + cs.length : Nat) : Int)
  | [], i, x, h => by simp [ned] at h
  | c :: cs, i, x, h => by
    have ih := ned_at polys cs (i + 1)
    unfold ned at h
    have key : x ∈ (ned polys cs (i + 1)).2.1 → (i : Int) ≤ x ∧ x < ((i + (c :: cs).length : Nat) : Int) := fun h => by have := ih x h; simp; omega
    split at h
    · exact key h
    · split at h
      · simp at h
      · split at h
        · simp at h
        · rcases List.mem_cons.1 h with rfl | h
          · simp; omega
          · exact key h
/-- a piece that was replaced -/
def repl (c : Cut) (k : Int) : Cut := (c.1, (c.2.1, (c.2.2.1, (c.2.2.2.1, ([k], false)))))
/-- the pieces after the replacement -/
def updM (rests : List Rest) : List (Int × Int) → List Cut → List Cut
  | [], out => out
  | p :: ps, out => if 0 ≤ p.2 then updM rests ps (out.set p.1.toNat (repl (out.getD p.1.toNat cz0) (rests.getD p.2.toNat rz).1)) else updM rests ps out
theorem asg_in : ∀ (ns : List Need) (L : List Rest), ∀ x ∈ (asg ns L).2, x < (L.length : Int)
  | [], L, x, h => by simp [asg] at h
  | n :: ns, L, x, h => by
    rcases fx0 (n := n) (L := L) with hk | ⟨j, hj, hk, _⟩
    · rw [asg_no hk] at h
      rcases List.mem_cons.1 h with rfl | h
      · omega
      · exact asg_in ns L x h
    · rw [asg_yes hk] at h
      rcases List.mem_cons.1 h with rfl | h
      · omega
      · have := asg_in ns _ x h
        rwa [List.length_set] at this
theorem zipD {a b : List Int} {i : Nat} (h : i < a.length) (h2 : i < b.length) : (a.zip b).drop i = (a[i], b[i]) :: (a.zip b).drop (i + 1) := by
  rw [drop_cons (by simp; omega)]; simp
theorem upd_lp {cuts : List Cut} {polys : Polys} {rests : List Rest} {w f : List Int} {left : List Rest} (hwf : w.length = f.length) (hl : f.length < 4398046511104) (hf : ∀ x ∈ f, x < (rests.length : Int)) : ∀ (m i : Nat), i + m = f.length → ∀ out : List Cut, (∀ x ∈ w, 0 ≤ x ∧ x < (out.length : Int)) →
    recut_Recut_lp2 CG cuts polys rests rests (f.length : Int) (i : Int) w left out f = some [.own t6 (updM rests ((w.zip f).drop i) out), .own t8 left, .val tI 0]
  | 0, i, h, out, hw => by
    refine recut_Recut_lp2_st _ _ _ _ _ _ _ _ _ _ ?_
    refine neg (ige (by omega)) ?_
    rw [List.drop_of_length_le (by simp; omega)]
    rfl
  | m + 1, i, h, out, hw => by
    have hi : i < f.length := by omega
    have hi2 : i < w.length := by omega
    refine recut_Recut_lp2_st _ _ _ _ _ _ _ _ _ _ ?_
    rw [zipD hi2 hi]
    simp only [Int.toNat_natCast, getD_eq hi, getD_eq hi2, wrS (show i < 4611686018427387904 by omega), List.length_set]
    refine pos (ilt hi) (pos (ixn hi) ?_)
    have h1 := hf _ (List.getElem_mem hi)
    have h2 := hw _ (List.getElem_mem hi2)
    unfold updM
    by_cases h0 : 0 ≤ f[i]
    · rw [if_pos h0]
      refine pos (dt h0) (pos (ixn hi2) (pos (by omega) (pos h2 (pos (ixn hi2) (pos h2 ?_)))))
      have hlt : w[i].toNat < out.length := by omega
      have e : ∀ x : Cut, (out.set w[i].toNat x).getD w[i].toNat cz0 = x := fun x => by simp [List.getD, hlt]
      rw [e, List.set_set]
      exact upd_lp hwf hl hf m (i + 1) (by omega) (out.set w[i].toNat (repl (out.getD w[i].toNat cz0) (rests.getD f[i].toNat rz).1)) (by simpa using hw)
    · rw [if_neg h0]
      exact neg (df h0) (upd_lp hwf hl hf m (i + 1) (by omega) out hw)
theorem copy_lp {cuts : List Cut} {polys : Polys} {rests : List Rest} {w f : List Int} {left : List Rest} (hc : cuts.length < 1099511627776) (hr : ∀ c ∈ cuts, c.2.2.2.2.1.length < 17592186044416) : ∀ (m i : Nat), i + m = cuts.length → ∀ res,
    recut_Recut_lp2 CG cuts polys rests rests (f.length : Int) 0 w left cuts f = some res →
    recut_Recut_lp1 CG cuts polys rests rests cuts (cuts.length : Int) (i : Int) w left f (cuts.take i) = some res
  | 0, i, h, res, hres => by
    refine recut_Recut_lp1_st _ _ _ _ _ _ _ _ _ _ _ ?_
    refine neg (ige (by omega)) ?_
    rw [List.take_of_length_le (by omega)]
    exact hres
  | m + 1, i, h, res, hres => by
    have hi : i < cuts.length := by omega
    refine recut_Recut_lp1_st _ _ _ _ _ _ _ _ _ _ _ ?_
    rw [Int.toNat_natCast, getD_eq hi, wrS (by omega)]
    refine pos (ilt hi) (pos (ixn hi) (bnd (cloneI_ok (hr _ (List.getElem_mem hi))) (pos (by simp; omega) ?_)))
    have := copy_lp hc hr m (i + 1) (by omega) res hres
    rw [List.take_succ_eq_append_getElem hi] at this
    exact this
/-- what a Recut returns -/
noncomputable def rec43 (cuts : List Cut) (polys : Polys) (rests : List Rest) : List Cut × (List Rest × Int) :=
  if (ned polys cuts 0).2.2 ≠ 0 then ([], ([], (ned polys cuts 0).2.2)) else (updM rests ((ned polys cuts 0).2.1.zip (asg (ned polys cuts 0).1 rests).2) cuts, ((asg (ned polys cuts 0).1 rests).1, 0))
theorem recut_ok {cuts : List Cut} {polys : Polys} {rests : List Rest} (hc : cuts.length < 1099511627776) (hr : ∀ c ∈ cuts, c.2.2.2.2.1.length < 17592186044416) (hL : rests.length < 4398046511104) : callT CG [.o t6, .o t8, .v tI] 48 [.val (.sl t6) cuts, .val (.sl (.sl t0)) polys, .val (.sl t8) rests] = some (rec43 cuts polys rests) := by
  refine callT_of (recut_Recut_st cuts polys rests (r := [.own t6 (rec43 cuts polys rests).1, .own t8 (rec43 cuts polys rests).2.1, .val tI (rec43 cuts polys rests).2.2]) ?_) rfl
  refine bnd (needs_ok (by omega)) ?_
  unfold rec43
  obtain ⟨n1, n2⟩ := ned_len polys cuts 0
  by_cases h : (ned polys cuts 0).2.2 = 0
  · refine neg (by simp [h]) (bnd (assign_ok (by omega) hL) ?_)
    rw [if_neg (by simp [h])]
    refine copy_lp hc hr cuts.length 0 (by omega) _ ?_
    have h2 := (asg_len (ned polys cuts 0).1 rests).2
    have := upd_lp (cuts := cuts) (polys := polys) (rests := rests) (w := (ned polys cuts 0).2.1) (f := (asg (ned polys cuts 0).1 rests).2) (left := (asg (ned polys cuts 0).1 rests).1) (by omega) (by omega) (asg_in _ _) (asg (ned polys cuts 0).1 rests).2.length 0 (by omega) cuts (fun x hx => by have := ned_at polys cuts 0 x hx; omega)
    rw [List.drop_zero] at this
    exact this
  · refine pos (by simp [h]) ?_
    rw [if_pos h]
/-- a piece's ply, place, lot and size -/
def four (c : Cut) : Int × Int × Int × Int := (c.1, c.2.1, c.2.2.1, c.2.2.2.1)
theorem repl_four {c d : Cut} (h : four c = four d) (k : Int) : repl c k = repl d k := by
  unfold four at h
  simp only [Prod.mk.injEq] at h
  unfold repl
  rw [h.1, h.2.1, h.2.2.1, h.2.2.2]
theorem rupd_lp {cuts : List Cut} {polys : Polys} {rests : List Rest} {w f : List Int} {left : List Rest} (hwf : w.length = f.length) (hl : f.length < 4398046511104) (hf : ∀ x ∈ f, x < (rests.length : Int)) (hw : ∀ x ∈ w, 0 ≤ x ∧ x < (cuts.length : Int)) : ∀ (m i : Nat), i + m = f.length → ∀ out : List Cut, out.length = cuts.length → (∀ j, j < cuts.length → four (out.getD j cz0) = four (cuts.getD j cz0)) →
    garmentref43_Recut_lp1 CG cuts polys rests cuts rests (i : Int) w left f out = some [.own t6 (updM rests ((w.zip f).drop i) out), .own t8 left, .val tI 0]
  | 0, i, h, out, ho, h4 => by
    refine garmentref43_Recut_lp1_st _ _ _ _ _ _ _ _ _ _ ?_
    refine neg (ige (by omega)) ?_
    rw [List.drop_of_length_le (by simp; omega)]
    rfl
  | m + 1, i, h, out, ho, h4 => by
    have hi : i < f.length := by omega
    have hi2 : i < w.length := by omega
    refine garmentref43_Recut_lp1_st _ _ _ _ _ _ _ _ _ _ ?_
    rw [zipD hi2 hi]
    simp only [Int.toNat_natCast, getD_eq hi, getD_eq hi2, wrS (show i < 4611686018427387904 by omega)]
    refine pos (ilt hi2) (pos (ixn hi) ?_)
    have h1 := hf _ (List.getElem_mem hi)
    have h2 := hw _ (List.getElem_mem hi2)
    unfold updM
    by_cases h0 : 0 ≤ f[i]
    · rw [if_pos h0]
      refine neg (df (by omega)) (pos (ixn hi2) (pos h2 (pos (ixn hi2) (pos (ixn hi) (pos (by omega) (pos (by omega) ?_))))))
      have hlt : w[i].toNat < cuts.length := by omega
      rw [repl_four (h4 _ hlt)]
      refine rupd_lp hwf hl hf hw m (i + 1) (by omega) (out.set w[i].toNat (repl (cuts.getD w[i].toNat cz0) (rests.getD f[i].toNat rz).1)) (by simpa using ho) (fun j hj => ?_)
      by_cases e : w[i].toNat = j
      · rw [e]; simp [List.getD, ho, hj, repl, four]
      · rw [show (out.set w[i].toNat (repl (cuts.getD w[i].toNat cz0) (rests.getD f[i].toNat rz).1)).getD j cz0 = out.getD j cz0 by simp [List.getD, List.getElem?_set, e]]
        exact h4 j hj
    · rw [if_neg h0]
      exact pos (dt (by omega)) (rupd_lp hwf hl hf hw m (i + 1) (by omega) out ho h4)
theorem rrecut_ok {cuts : List Cut} {polys : Polys} {rests : List Rest} (hc : cuts.length < 1099511627776) (hL : rests.length < 4398046511104) : callT CG [.o t6, .o t8, .v tI] 49 [.val (.sl t6) cuts, .val (.sl (.sl t0)) polys, .val (.sl t8) rests] = some (rec43 cuts polys rests) := by
  refine callT_of (garmentref43_Recut_st cuts polys rests (r := [.own t6 (rec43 cuts polys rests).1, .own t8 (rec43 cuts polys rests).2.1, .val tI (rec43 cuts polys rests).2.2]) ?_) rfl
  refine bnd (rneeds_ok (by omega)) ?_
  unfold rec43
  obtain ⟨n1, n2⟩ := ned_len polys cuts 0
  by_cases h : (ned polys cuts 0).2.2 = 0
  · refine neg (by simp [h]) (bnd (rassign_ok (by omega) hL) (pos (by omega) ?_))
    rw [if_neg (by simp [h])]
    have h2 := (asg_len (ned polys cuts 0).1 rests).2
    have := rupd_lp (cuts := cuts) (polys := polys) (rests := rests) (w := (ned polys cuts 0).2.1) (f := (asg (ned polys cuts 0).1 rests).2) (left := (asg (ned polys cuts 0).1 rests).1) (by omega) (by omega) (asg_in _ _) (fun x hx => by have := ned_at polys cuts 0 x hx; omega) (asg (ned polys cuts 0).1 rests).2.length 0 (by omega) cuts rfl (fun _ _ => rfl)
    rw [List.drop_zero] at this
    exact this
  · refine pos (by simp [h]) ?_
    rw [if_pos h]
end Pl
end
section
/- The test of a polygon by computing; the examples are run with it. -/
namespace Pl
open Go Geo Pm
def betB (a b q : IP) : Bool := crI a b q == 0 && (decide (min a.1 b.1 ≤ q.1) && decide (q.1 ≤ max a.1 b.1)) && (decide (min a.2 b.2 ≤ q.2) && decide (q.2 ≤ max a.2 b.2))
theorem betB_iff (a b q : IP) : betB a b q = true ↔ BetI a b q := by unfold betB BetI; simp only [Bool.and_eq_true, beq_iff_eq, decide_eq_true_eq, and_assoc]
def divB (a b p q : IP) : Bool := (decide (crI a b p < 0) && decide (0 < crI a b q)) || (decide (0 < crI a b p) && decide (crI a b q < 0))
theorem divB_iff (a b p q : IP) : divB a b p q = true ↔ DivI a b p q := by unfold divB DivI; simp only [Bool.or_eq_true, Bool.and_eq_true, decide_eq_true_eq]
def meetB (a b c d : IP) : Bool := betB a b c || (betB a b d || (betB c d a || (betB c d b || (divB a b c d && divB c d a b))))
theorem meetB_iff (a b c d : IP) : meetB a b c d = true ↔ MeetI a b c d := by unfold meetB MeetI; simp only [Bool.or_eq_true, Bool.and_eq_true, betB_iff, divB_iff]
def simpB (P : List IP) : Bool := (List.range P.length).all fun i => !(decide (nth P i = nth P (i + 1))) && (!betB (nth P i) (nth P (i + 1)) (nth P (i + 2)) && (!betB (nth P (i + 1)) (nth P (i + 2)) (nth P i) &&
  (List.range P.length).all fun k => !Nat.ble (i + 2) k || ((Nat.beq i 0 && Nat.beq k (P.length - 1)) || !meetB (nth P i) (nth P (i + 1)) (nth P k) (nth P (k + 1)))))
theorem simpB_iff (P : List IP) : simpB P = true ↔ SimpI P := by
  unfold simpB SimpI
  simp only [List.all_eq_true, List.mem_range, Bool.and_eq_true, Bool.not_eq_true', decide_eq_false_iff_not, ← Bool.not_eq_true, betB_iff, Bool.or_eq_true, meetB_iff, Nat.beq_eq, Nat.ble_eq]
  refine forall_congr' fun i => forall_congr' fun hi => ?_
  refine and_congr (by simp) (and_congr Iff.rfl (and_congr Iff.rfl ?_))
  constructor
  · intro h k h1 h2 h3
    rcases h k h2 with h4 | h4 | h4
    · exact absurd h1 h4
    · exact absurd h4 h3
    · exact h4
  · intro h k h2
    by_cases h1 : i + 2 ≤ k
    · by_cases h3 : i = 0 ∧ k = P.length - 1
      · exact Or.inr (Or.inl h3)
      · exact Or.inr (Or.inr (h k h1 h2 h3))
    · exact Or.inl h1
def insB (s : IP) : Bool := (decide (-1048576 ≤ s.1) && decide (s.1 ≤ 1048576)) && (decide (-1048576 ≤ s.2) && decide (s.2 ≤ 1048576))
theorem insB_iff (s : IP) : insB s = true ↔ insI s.1 ∧ insI s.2 := by unfold insB insI; simp only [Bool.and_eq_true, decide_eq_true_eq]
def chkB (P : List IP) : Int := cond (Nat.blt 40 P.length) 5 (cond (Nat.blt P.length 3) 11 (cond (P.all insB) (cond (simpB P) 0 11) 3))
theorem chkB_eq (P : List IP) : chkB P = chk P := by
  unfold chkB chk
  by_cases h1 : 40 < P.length
  · rw [if_pos h1, show Nat.blt 40 P.length = true from of_eq_true (by rw [Nat.blt_eq]; simp [h1])]; rfl
  rw [if_neg h1, show Nat.blt 40 P.length = false from Bool.eq_false_iff.2 (fun h => h1 (Nat.blt_eq ▸ h))]
  by_cases h2 : P.length < 3
  · rw [if_pos h2, show Nat.blt P.length 3 = true from of_eq_true (by rw [Nat.blt_eq]; simp [h2])]; rfl
  rw [if_neg h2, show Nat.blt P.length 3 = false from Bool.eq_false_iff.2 (fun h => h2 (Nat.blt_eq ▸ h))]
  have hin : P.all insB = true ↔ InsI P := by
    unfold InsI
    rw [List.all_eq_true]
    exact forall_congr' fun s => forall_congr' fun _ => insB_iff s
  by_cases h3 : InsI P
  · rw [if_neg (fun h => h h3), hin.2 h3]
    by_cases h4 : SimpI P
    · rw [if_pos h4, (simpB_iff P).2 h4]; rfl
    · rw [if_neg h4, show simpB P = false from Bool.eq_false_iff.2 (fun h => h4 ((simpB_iff P).1 h))]; rfl
  · rw [if_pos h3, show P.all insB = false from Bool.eq_false_iff.2 (fun h => h3 (hin.1 h))]; rfl
/-- calls that are known: the test of a polygon -/
def O11 : CallF := fun f as => cond (Nat.beq f 13 || Nat.beq f 67) (match as with
  | [.val t x] => match castT t (.sl t0) x with
    | some P => some [.val tI (chkB P)]
    | none => none
  | _ => none) none
theorem O11_less : Less O11 (limC G) := by
  intro f as r h
  unfold O11 at h
  cases hb : (Nat.beq f 13 || Nat.beq f 67) with
  | false => rw [hb] at h; cases h
  | true =>
    rw [hb] at h
    simp only [cond_true] at h
    split at h
    · rename_i t x
      split at h
      · rename_i P hc
        obtain ⟨e, hx⟩ := castT_some hc
        subst e
        subst hx
        injection h with h
        subst h
        rw [chkB_eq]
        rw [Bool.or_eq_true] at hb
        rcases hb with hb | hb
        · rw [Nat.eq_of_beq_eq_true hb]; exact check_cg _
        · rw [Nat.eq_of_beq_eq_true hb]; exact rcheck_cg _
      · cases h
    · cases h
theorem run11 {f k : Nat} {as : List D} {r : R} (h : evO G O11 k f as = some r) : CG f as = some r := evO_lim O11_less k f as r h
end Pl
end
section
/- Chapter 43: comparisons; the examples. -/
namespace Pl
open Go Geo Pm
theorem example43_ok : callT CG [.v .bool] 47 [] = some true := callT_of (run11 (k := 60) (r := [.val .bool true]) (by kernel_rfl)) rfl
theorem sameI_lp {a b : List Int} (hab : a.length = b.length) (hl : a.length < 4611686018427387904) : ∀ (m i : Nat), i + m = a.length →
    garmentref43_SameInts_lp1 CG a b a b (i : Int) = some [.val .bool (decide (a.drop i = b.drop i))]
  | 0, i, h => by
    refine garmentref43_SameInts_lp1_st _ _ _ _ _ ?_
    refine neg (ige (by omega)) ?_
    rw [List.drop_of_length_le (by omega), List.drop_of_length_le (by omega), decide_eq_true rfl]
  | m + 1, i, h => by
    have hi : i < a.length := by omega
    have hj : i < b.length := by omega
    refine garmentref43_SameInts_lp1_st _ _ _ _ _ ?_
    rw [wrS (by omega), Int.toNat_natCast, getD_eq hi, getD_eq hj, drop_cons hi, drop_cons hj]
    refine pos (ilt hi) (pos (ixn hi) (pos (ixn hj) ?_))
    by_cases hc : a[i] = b[i]
    · refine neg (by simp [hc]) ?_
      rw [sameI_lp hab hl m (i + 1) (by omega), show decide (a[i] :: a.drop (i + 1) = b[i] :: b.drop (i + 1)) = decide (a.drop (i + 1) = b.drop (i + 1)) from decide_eq_decide.2 (by rw [hc, List.cons.injEq]; exact ⟨fun h => h.2, fun h => ⟨rfl, h⟩⟩)]
    · refine pos (by simp [hc]) ?_
      rw [decide_eq_false (by rw [List.cons.injEq]; exact fun h' => hc h'.1)]
theorem sameI_ok {a b : List Int} (hl : a.length < 4611686018427387904) : callT CG [.v .bool] 54 [.val (.sl tI) a, .val (.sl tI) b] = some (decide (a = b)) := by
  refine callT_of (garmentref43_SameInts_st a b (r := [.val .bool (decide (a = b))]) ?_) rfl
  by_cases h : a.length = b.length
  · refine neg (by simp [h]) ?_
    have := sameI_lp h hl a.length 0 (by omega)
    simpa using this
  · refine pos (by simp; omega) ?_
    rw [decide_eq_false (fun e => h (by rw [e]))]
theorem sameC_ok {a b : Cut} (hl : a.2.2.2.2.1.length < 4611686018427387904) : callT CG [.v .bool] 63 [.val t6 a, .val t6 b] = some (decide (a = b)) := by
  refine callT_of (garmentref43_SameCut_st a b (r := [.val .bool (decide (a = b))]) ?_) rfl
  have no : a ≠ b → some [D.val .bool false] = some [D.val .bool (decide (a = b))] := fun h => by rw [decide_eq_false h]
  by_cases h1 : a.1 = b.1
  · refine pos (by simp [h1]) ?_
    by_cases h2 : a.2.1 = b.2.1
    · refine pos (by simp [h2]) ?_
      by_cases h3 : a.2.2.1 = b.2.2.1
      · refine pos (by simp [h3]) ?_
        by_cases h4 : a.2.2.2.1 = b.2.2.2.1
        · refine pos (by simp [h4]) ?_
          by_cases h5 : a.2.2.2.2.2 = b.2.2.2.2.2
          · refine pos (by simp [h5]) (bnd (sameI_ok hl) ?_)
            rw [show decide (a.2.2.2.2.1 = b.2.2.2.2.1) = decide (a = b) from decide_eq_decide.2 ⟨fun h => Prod.ext h1 (Prod.ext h2 (Prod.ext h3 (Prod.ext h4 (Prod.ext h h5)))), fun h => by rw [h]⟩]
          · exact neg (by simp [h5]) (no fun h => h5 (by rw [h]))
        · exact neg (by simp [h4]) (no fun h => h4 (by rw [h]))
      · exact neg (by simp [h3]) (no fun h => h3 (by rw [h]))
    · exact neg (by simp [h2]) (no fun h => h2 (by rw [h]))
  · exact neg (by simp [h1]) (no fun h => h1 (by rw [h]))
open Classical in
theorem sameCs_lp {a b : List Cut} (hab : a.length = b.length) (hl : a.length < 4611686018427387904) (hr : ∀ c ∈ a, c.2.2.2.2.1.length < 4611686018427387904) : ∀ (m i : Nat), i + m = a.length →
    garmentref43_SameCuts_lp1 CG a b a b (i : Int) = some [.val .bool (decide (a.drop i = b.drop i))]
  | 0, i, h => by
    refine garmentref43_SameCuts_lp1_st _ _ _ _ _ ?_
    refine neg (ige (by omega)) ?_
    rw [List.drop_of_length_le (by omega), List.drop_of_length_le (by omega), decide_eq_true rfl]
  | m + 1, i, h => by
    have hi : i < a.length := by omega
    have hj : i < b.length := by omega
    refine garmentref43_SameCuts_lp1_st _ _ _ _ _ ?_
    rw [wrS (by omega), Int.toNat_natCast, getD_eq hi, getD_eq hj, drop_cons hi, drop_cons hj]
    refine pos (ilt hi) (pos (ixn hi) (pos (ixn hj) (bnd (sameC_ok (hr _ (List.getElem_mem hi))) ?_)))
    by_cases hc : a[i] = b[i]
    · refine neg (by simp [hc]) ?_
      rw [sameCs_lp hab hl hr m (i + 1) (by omega), show decide (a[i] :: a.drop (i + 1) = b[i] :: b.drop (i + 1)) = decide (a.drop (i + 1) = b.drop (i + 1)) from decide_eq_decide.2 (by rw [hc, List.cons.injEq]; exact ⟨fun h => h.2, fun h => ⟨rfl, h⟩⟩)]
    · refine pos (by simp [hc]) ?_
      rw [decide_eq_false (by rw [List.cons.injEq]; exact fun h' => hc h'.1)]
open Classical in
theorem sameCs_ok {a b : List Cut} (hl : a.length < 4611686018427387904) (hr : ∀ c ∈ a, c.2.2.2.2.1.length < 4611686018427387904) : callT CG [.v .bool] 50 [.val (.sl t6) a, .val (.sl t6) b] = some (decide (a = b)) := by
  refine callT_of (garmentref43_SameCuts_st a b (r := [.val .bool (decide (a = b))]) ?_) rfl
  by_cases h : a.length = b.length
  · refine neg (by simp [h]) ?_
    have := sameCs_lp h hl hr a.length 0 (by omega)
    simpa using this
  · refine pos (by simp; omega) ?_
    rw [decide_eq_false (fun e => h (by rw [e]))]
theorem eq_rest (a b : Rest) : ((a.1 == b.1) && ((a.2.1 == b.2.1) && ((a.2.2.1 == b.2.2.1) && (a.2.2.2 == b.2.2.2)))) = true ↔ a = b := by
  simp only [Bool.and_eq_true, beq_iff_eq]
  exact ⟨fun h => Prod.ext h.1 (Prod.ext h.2.1 (Prod.ext h.2.2.1 h.2.2.2)), fun h => by rw [h]; exact ⟨rfl, rfl, rfl, rfl⟩⟩
theorem sameR_lp {a b : List Rest} (hab : a.length = b.length) (hl : a.length < 4611686018427387904) : ∀ (m i : Nat), i + m = a.length →
    garmentref43_SameRests_lp1 CG a b a b (i : Int) = some [.val .bool (decide (a.drop i = b.drop i))]
  | 0, i, h => by
    refine garmentref43_SameRests_lp1_st _ _ _ _ _ ?_
    refine neg (ige (by omega)) ?_
    rw [List.drop_of_length_le (by omega), List.drop_of_length_le (by omega), decide_eq_true rfl]
  | m + 1, i, h => by
    have hi : i < a.length := by omega
    have hj : i < b.length := by omega
    refine garmentref43_SameRests_lp1_st _ _ _ _ _ ?_
    rw [wrS (by omega), Int.toNat_natCast, getD_eq hi, getD_eq hj, drop_cons hi, drop_cons hj]
    refine pos (ilt hi) (pos (ixn hi) (pos (ixn hj) ?_))
    by_cases hc : a[i] = b[i]
    · refine neg (by rw [(eq_rest _ _).2 hc]; simp) ?_
      rw [sameR_lp hab hl m (i + 1) (by omega), show decide (a[i] :: a.drop (i + 1) = b[i] :: b.drop (i + 1)) = decide (a.drop (i + 1) = b.drop (i + 1)) from decide_eq_decide.2 (by rw [hc, List.cons.injEq]; exact ⟨fun h => h.2, fun h => ⟨rfl, h⟩⟩)]
    · refine pos (by rw [Bool.not_eq_true', ← Bool.not_eq_true]; exact fun h' => hc ((eq_rest _ _).1 h')) ?_
      rw [decide_eq_false (by rw [List.cons.injEq]; exact fun h' => hc h'.1)]
theorem sameR_ok {a b : List Rest} (hl : a.length < 4611686018427387904) : callT CG [.v .bool] 51 [.val (.sl t8) a, .val (.sl t8) b] = some (decide (a = b)) := by
  refine callT_of (garmentref43_SameRests_st a b (r := [.val .bool (decide (a = b))]) ?_) rfl
  by_cases h : a.length = b.length
  · refine neg (by simp [h]) ?_
    have := sameR_lp h hl a.length 0 (by omega)
    simpa using this
  · refine pos (by simp; omega) ?_
    rw [decide_eq_false (fun e => h (by rw [e]))]
/-- at most 60 pieces of at most 5 rolls -/
theorem few2_lp {a : List Cut} {b : Polys} (hb : b.length ≤ 10) : ∀ (m i : Nat), i + m = b.length → ∃ r, garmentref43_Few_lp2 CG a b b (i : Int) = some [.val .bool r]
  | 0, i, h => ⟨true, garmentref43_Few_lp2_st _ _ _ _ (neg (ige (by omega)) rfl)⟩
  | m + 1, i, h => by
    have hi : i < b.length := by omega
    by_cases hc : ((List.length (List.getD b (Int.toNat (i : Int)) []) : Nat) : Int) > 12
    · exact ⟨false, garmentref43_Few_lp2_st _ _ _ _ (pos (ilt hi) (pos (ixn hi) (pos (dt hc) rfl)))⟩
    · obtain ⟨r, hr⟩ := few2_lp (a := a) hb m (i + 1) (by omega)
      exact ⟨r, garmentref43_Few_lp2_st _ _ _ _ (pos (ilt hi) (pos (ixn hi) (neg (df hc) (by rw [wrS (by omega)]; exact hr))))⟩
theorem few1_lp {a : List Cut} {b : Polys} (ha : a.length ≤ 60) (hb : b.length ≤ 10) : ∀ (m i : Nat), i + m = a.length → (∀ j, j < i → (a.getD j cz0).2.2.2.2.1.length ≤ 5) → ∃ r, garmentref43_Few_lp1 CG a b a b (i : Int) = some [.val .bool r] ∧ (r = true → ∀ c ∈ a, c.2.2.2.2.1.length ≤ 5)
  | 0, i, h, hp => by
    obtain ⟨r, hr⟩ := few2_lp (a := a) hb b.length 0 (by omega)
    refine ⟨r, garmentref43_Few_lp1_st _ _ _ _ _ (neg (ige (by omega)) hr), fun _ c hc => ?_⟩
    obtain ⟨j, hj, rfl⟩ := List.mem_iff_getElem.1 hc
    have := hp j (by omega)
    rwa [getD_eq hj] at this
  | m + 1, i, h, hp => by
    have hi : i < a.length := by omega
    by_cases hc : ((List.length (List.getD a (Int.toNat (i : Int)) cz0).2.2.2.2.1 : Nat) : Int) > 5
    · exact ⟨false, garmentref43_Few_lp1_st _ _ _ _ _ (pos (ilt hi) (pos (ixn hi) (pos (dt hc) rfl))), fun h => by cases h⟩
    · obtain ⟨r, hr, h2⟩ := few1_lp ha hb m (i + 1) (by omega) (fun j hj => by
        by_cases e : j = i
        · rw [Int.toNat_natCast] at hc; rw [e]; omega
        · exact hp j (by omega))
      exact ⟨r, garmentref43_Few_lp1_st _ _ _ _ _ (pos (ilt hi) (pos (ixn hi) (neg (df hc) (by rw [wrS (by omega)]; exact hr)))), h2⟩
theorem few43_ok (a : List Cut) (b : Polys) : ∃ r, callT CG [.v .bool] 46 [.val (.sl t6) a, .val (.sl (.sl t0)) b] = some r ∧ (r = true → a.length ≤ 60 ∧ ∀ c ∈ a, c.2.2.2.2.1.length ≤ 5) := by
  by_cases h1 : 60 < a.length
  · exact ⟨false, callT_of (garmentref43_Few_st a b (r := [.val .bool false]) (pos (dt (by omega)) rfl)) rfl, fun h => by cases h⟩
  by_cases h2 : 10 < b.length
  · exact ⟨false, callT_of (garmentref43_Few_st a b (r := [.val .bool false]) (neg (df (by omega)) (pos (dt (by omega)) rfl))) rfl, fun h => by cases h⟩
  obtain ⟨r, hr, h3⟩ := few1_lp (a := a) (b := b) (by omega) (by omega) a.length 0 (by omega) (fun j hj => by omega)
  exact ⟨r, callT_of (garmentref43_Few_st a b (r := [.val .bool r]) (neg (df (by omega)) (neg (df (by omega)) hr))) rfl, fun h => ⟨by omega, h3 h⟩⟩
theorem updM_len (rests : List Rest) : ∀ (ps : List (Int × Int)) (out : List Cut), (updM rests ps out).length = out.length
  | [], out => rfl
  | p :: ps, out => by
    unfold updM
    split
    · rw [updM_len rests ps, List.length_set]
    · exact updM_len rests ps out
theorem updM_rolls (rests : List Rest) : ∀ (ps : List (Int × Int)) (out : List Cut), (∀ c ∈ out, c.2.2.2.2.1.length ≤ 5) → ∀ c ∈ updM rests ps out, c.2.2.2.2.1.length ≤ 5
  | [], out, h => h
  | p :: ps, out, h => by
    unfold updM
    split
    · refine updM_rolls rests ps _ fun c hc => ?_
      rcases List.mem_or_eq_of_mem_set hc with hc | rfl
      · exact h c hc
      · simp [repl]
    · exact updM_rolls rests ps out h
theorem rec43_few {cuts : List Cut} {polys : Polys} {rests : List Rest} (h1 : cuts.length ≤ 60) (h2 : ∀ c ∈ cuts, c.2.2.2.2.1.length ≤ 5) : (rec43 cuts polys rests).1.length ≤ 60 ∧ (∀ c ∈ (rec43 cuts polys rests).1, c.2.2.2.2.1.length ≤ 5) ∧ (rec43 cuts polys rests).2.1.length ≤ rests.length := by
  unfold rec43
  split
  · simp
  · exact ⟨by rw [updM_len]; exact h1, updM_rolls _ _ _ h2, by rw [(asg_len _ _).1]; exact Nat.le_refl _⟩
end Pl
end
section
/- RecutResults: Recut returns what the reference returns, for all pieces, polygons and rests within the bounds. -/
namespace Pl
open Go Geo Pm
theorem RecutResults_pure (x0 : List Cut) (x1 : Polys) (x2 : List Rest) (w0 : wf (.sl t6) x0) (w1 : wf (.sl (.sl t0)) x1) (w2 : wf (.sl t8) x2) : CG 52 [.val (.sl t6) x0, .val (.sl (.sl t0)) x1, .val (.sl t8) x2] = some [.val .bool true] := by
  obtain ⟨r, hr, hf⟩ := few43_ok x0 x1
  refine garmentlaw43_RecutResults_st x0 x1 x2 (bnd hr ?_)
  cases r with
  | false => exact pos rfl (bnd example43_ok rfl)
  | true =>
    obtain ⟨h1, h2⟩ := hf rfl
    refine neg (by simp) ?_
    by_cases h3 : 30 < x2.length
    · exact pos (dt (by omega)) (bnd example43_ok rfl)
    obtain ⟨r1, r2, r3⟩ := rec43_few (polys := x1) (rests := x2) h1 h2
    refine neg (df (by omega)) (bnd (recut_ok (by omega) (fun c hc => by have := h2 c hc; omega) (by omega)) (bnd (rrecut_ok (by omega) (by omega)) (pos (by simp) (bnd (sameCs_ok (by omega) (fun c hc => by have := r2 c hc; omega)) (pos (by simp) (bnd (sameR_ok (by omega)) (pos (by simp) (bnd example43_ok rfl))))))))
end Pl
end
