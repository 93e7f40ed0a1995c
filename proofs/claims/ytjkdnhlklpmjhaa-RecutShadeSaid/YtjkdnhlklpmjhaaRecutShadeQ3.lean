/- Parts of the proof of RecutShade, joined: C43e, LRecutShade. -/
import Derived.Test.YtjkdnhlklpmjhaaRecutShadeQ2
set_option linter.unusedVariables false
set_option linter.unusedSimpArgs false
section
/- Chapter 43: what is replaced. -/
namespace Pl
open Go Geo Pm
/-- a piece as it was, or replaced -/
def Shaded (rests : List Rest) (x y : Cut) : Prop := x = y ∨ (dam x = true ∧ ∃ k, y = repl x k ∧ ∃ r ∈ rests, r.2.1 = x.2.2.1 ∧ r.1 = k)
/-- replacing at places of damaged pieces that rise, by rests of their lots -/
theorem updM_shaded (rests : List Rest) : ∀ (ps : List (Int × Int)) (out : List Cut), (∀ p ∈ ps, 0 ≤ p.1 ∧ p.1 < (out.length : Int)) → (ps.map (·.1)).Pairwise (· < ·) → (∀ p ∈ ps, 0 ≤ p.2 → dam (out.getD p.1.toNat cz0) = true ∧ ∃ r ∈ rests, r.2.1 = (out.getD p.1.toNat cz0).2.2.1 ∧ r.1 = (rests.getD p.2.toNat rz).1) →
    ∀ j, j < out.length → Shaded rests (out.getD j cz0) ((updM rests ps out).getD j cz0)
  | [], out, _, _, _, j, hj => Or.inl rfl
  | p :: ps, out, hr, hp, hd, j, hj => by
    rw [List.map_cons, List.pairwise_cons] at hp
    unfold updM
    split
    · rename_i h0
      obtain ⟨d1, d2⟩ := hd p List.mem_cons_self h0
      have hr0 := hr p List.mem_cons_self
      have ne : ∀ q ∈ ps, p.1.toNat ≠ q.1.toNat := fun q hq => by
        have := hp.1 q.1 (List.mem_map_of_mem hq)
        have := hr q (List.mem_cons_of_mem _ hq)
        omega
      have ih := updM_shaded rests ps (out.set p.1.toNat (repl (out.getD p.1.toNat cz0) (rests.getD p.2.toNat rz).1)) (by intro q hq; rw [List.length_set]; exact hr q (List.mem_cons_of_mem _ hq)) hp.2 (fun q hq hq0 => by
        rw [getD_set_ne (ne q hq)]; exact hd q (List.mem_cons_of_mem _ hq) hq0) j (by rw [List.length_set]; exact hj)
      by_cases e : p.1.toNat = j
      · subst e
        rw [getD_set_eq (by omega)] at ih
        rcases ih with ih | ⟨ih, _⟩
        · rw [← ih]; exact Or.inr ⟨d1, _, rfl, d2⟩
        · simp [dam, repl] at ih
      · rw [getD_set_ne e] at ih
        exact ih
    · exact updM_shaded rests ps out (fun q hq => hr q (List.mem_cons_of_mem _ hq)) hp.2 (fun q hq => hd q (List.mem_cons_of_mem _ hq)) j hj
theorem ned_rise (polys : Polys) : ∀ (cs : List Cut) (i : Nat), (ned polys cs i).2.1.Pairwise (· < ·)
  | [], i => by simp [ned]
  | c :: cs, i => by
    cases hd : dam c with
    | false => rw [ned_f hd]; exact ned_rise polys cs (i + 1)
    | true =>
      by_cases h2 : nerr polys c = 0
      · by_cases h3 : (ned polys cs (i + 1)).2.2 = 0
        · rw [ned_k hd h2 h3]
          refine List.pairwise_cons.2 ⟨fun x hx => ?_, ned_rise polys cs (i + 1)⟩
          have := (ned_at polys cs (i + 1) x hx).1
          omega
        · rw [ned_t hd h2 h3]; exact List.Pairwise.nil
      · rw [ned_e hd h2]; exact List.Pairwise.nil
/-- the k-th need is that of the damaged piece at its place -/
theorem ned_get (polys : Polys) : ∀ (cs : List Cut) (i k : Nat), k < (ned polys cs i).1.length → ∃ j, j < cs.length ∧ (ned polys cs i).2.1.getD k 0 = ((i + j : Nat) : Int) ∧ dam (cs.getD j cz0) = true ∧ (ned polys cs i).1.getD k (0, 0) = ((cs.getD j cz0).2.2.1, wid polys (cs.getD j cz0))
  | [], i, k, h => by simp [ned] at h
  | c :: cs, i, k, h => by
    cases hd : dam c with
    | false =>
      rw [ned_f hd] at h ⊢
      obtain ⟨j, h1, h2, h3, h4⟩ := ned_get polys cs (i + 1) k h
      exact ⟨j + 1, by simpa using h1, by rw [h2]; congr 1; omega, h3, h4⟩
    | true =>
      by_cases h2 : nerr polys c = 0
      · by_cases h3 : (ned polys cs (i + 1)).2.2 = 0
        · rw [ned_k hd h2 h3] at h ⊢
          cases k with
          | zero => exact ⟨0, by simp, rfl, hd, rfl⟩
          | succ k =>
            obtain ⟨j, h1, h5, h6, h7⟩ := ned_get polys cs (i + 1) k (by simpa using h)
            exact ⟨j + 1, by simpa using h1, by show (ned polys cs (i + 1)).2.1.getD k 0 = _; rw [h5]; congr 1; omega, h6, h7⟩
        · rw [ned_t hd h2 h3] at h; simp at h
      · rw [ned_e hd h2] at h; simp at h
end Pl
end
section
/- RecutShade: what is replaced keeps its ply, place, lot and size, and is cut from a rest of its lot, and nothing else changes, for all pieces, polygons and rests within the bounds. -/
namespace Pl
open Go Geo Pm
theorem of_lp {rests : List Rest} (hL : rests.length ≤ 30) (lot roll : Int) (h : ∃ r ∈ rests, r.2.1 = lot ∧ r.1 = roll) : ∀ (m i : Nat), i + m = rests.length → (∀ j, j < i → ¬ ((rests.getD j rz).2.1 = lot ∧ (rests.getD j rz).1 = roll)) →
    garmentlaw43_of_lp1 CG rests lot roll lot roll rests (rests.length : Int) (i : Int) = some [.val .bool true]
  | 0, i, hm, ha => by
    obtain ⟨r, hr, h2⟩ := h
    obtain ⟨j, hj, rfl⟩ := List.mem_iff_getElem.1 hr
    have := ha j (by omega)
    rw [getD_eq hj] at this
    exact absurd h2 this
  | m + 1, i, hm, ha => by
    have hi : i < rests.length := by omega
    refine garmentlaw43_of_lp1_st _ _ _ _ _ _ _ _ ?_
    rw [wrS (by omega), Int.toNat_natCast]
    refine pos (ilt hi) (pos (ixn hi) ?_)
    have go : ¬ ((rests.getD i rz).2.1 = lot ∧ (rests.getD i rz).1 = roll) → garmentlaw43_of_lp1 CG rests lot roll lot roll rests (rests.length : Int) ((i + 1 : Nat) : Int) = some [.val .bool true] := fun hn =>
      of_lp hL lot roll h m (i + 1) (by omega) (fun j hj => by
        by_cases e : j = i
        · rw [e]; exact hn
        · exact ha j (by omega))
    by_cases h1 : (rests.getD i rz).2.1 = lot
    · refine pos (by rw [h1]; simp) ?_
      by_cases h2 : (rests.getD i rz).1 = roll
      · exact pos (by rw [h2]; simp) rfl
      · exact neg (by rw [beq_iff_eq]; exact h2) (go fun h => h2 h.2)
    · exact neg (by rw [beq_iff_eq]; exact h1) (go fun h => h1 h.1)
theorem of_ok {rests : List Rest} (hL : rests.length ≤ 30) {lot roll : Int} (h : ∃ r ∈ rests, r.2.1 = lot ∧ r.1 = roll) : callT CG [.v .bool] 75 [.val (.sl t8) rests, .val tI lot, .val tI roll] = some true :=
  callT_of (garmentlaw43_of_st rests lot roll (of_lp hL lot roll h rests.length 0 (by omega) (fun j hj => by omega))) rfl
theorem shaded_lp {cuts l : List Cut} {polys : Polys} {rests : List Rest} (hc : cuts.length ≤ 60) (h5 : ∀ c ∈ cuts, c.2.2.2.2.1.length ≤ 5) (hl : l.length = cuts.length) (hL : rests.length ≤ 30) (hs : ∀ j, j < cuts.length → Shaded rests (cuts.getD j cz0) (l.getD j cz0)) : ∀ (m i : Nat), i + m = cuts.length →
    garmentlaw43_RecutShade_lp1 CG cuts polys rests rests cuts (cuts.length : Int) (i : Int) l = some [.val .bool true]
  | 0, i, h => garmentlaw43_RecutShade_lp1_st _ _ _ _ _ _ _ _ (neg (ige (by omega)) (bnd example43_ok rfl))
  | m + 1, i, h => by
    have hi : i < cuts.length := by omega
    have ih := shaded_lp (polys := polys) hc h5 hl hL hs m (i + 1) (by omega)
    have hsh := hs i hi
    have hr := h5 _ (getD_in hi cz0)
    refine garmentlaw43_RecutShade_lp1_st _ _ _ _ _ _ _ _ ?_
    rw [wrS (by omega), Int.toNat_natCast]
    generalize cuts.getD i cz0 = x at *
    generalize l.getD i cz0 = y at *
    refine pos (ilt hi) (pos (ixn hi) (pos (by omega) (bnd (sameC_ok (by omega)) ?_)))
    by_cases e : x = y
    · exact pos (by simp [e]) ih
    refine neg (by simp [e]) ?_
    rcases hsh with h | ⟨hd, k, rfl, hof⟩
    · exact absurd h e
    have hd : x.2.2.2.2.2 = true := hd
    refine neg (by simp [hd]) (neg (by simp [repl]) (neg (by simp [repl]) (neg (by simp [repl]) (neg (by simp [repl]) (neg (by simp [repl]) (neg (by simp [repl]) (pos (by simp [repl]) ?_)))))))
    refine bnd (of_ok hL hof) (neg (by simp) ih)
theorem RecutShade_pure (x0 : List Cut) (x1 : Polys) (x2 : List Rest) (w0 : wf (.sl t6) x0) (w1 : wf (.sl (.sl t0)) x1) (w2 : wf (.sl t8) x2) : CG 76 [.val (.sl t6) x0, .val (.sl (.sl t0)) x1, .val (.sl t8) x2] = some [.val .bool true] := by
  obtain ⟨r, hr, hf⟩ := few43_ok x0 x1
  refine garmentlaw43_RecutShade_st x0 x1 x2 (bnd hr ?_)
  cases r with
  | false => exact pos rfl (bnd example43_ok rfl)
  | true =>
    obtain ⟨h1, h2⟩ := hf rfl
    refine neg (by simp) ?_
    by_cases h3 : 30 < x2.length
    · exact pos (dt (by omega)) (bnd example43_ok rfl)
    refine neg (df (by omega)) (bnd (recut_ok (by omega) (fun c hc => by have := h2 c hc; omega) (by omega)) ?_)
    by_cases he : (ned x1 x0 0).2.2 = 0
    · have e : rec43 x0 x1 x2 = (updM x2 ((ned x1 x0 0).2.1.zip (asg (ned x1 x0 0).1 x2).2) x0, ((asg (ned x1 x0 0).1 x2).1, 0)) := by unfold rec43; rw [if_neg (by simp [he])]
      rw [e]
      refine neg (by simp) ?_
      obtain ⟨n1, n2⟩ := ned_len x1 x0 0
      obtain ⟨l1, l2⟩ := asg_len (ned x1 x0 0).1 x2
      refine neg (by simp [updM_len]) (neg (by simp [l1]) ?_)
      refine shaded_lp (by omega) h2 (updM_len _ _ _) (by omega) ?_ x0.length 0 (by omega)
      have hz : ∀ p ∈ (ned x1 x0 0).2.1.zip (asg (ned x1 x0 0).1 x2).2, ∃ k, k < (ned x1 x0 0).1.length ∧ p.1 = (ned x1 x0 0).2.1.getD k 0 ∧ p.2 = (asg (ned x1 x0 0).1 x2).2.getD k 0 := fun p hp => by
        obtain ⟨k, hk, rfl⟩ := List.mem_iff_getElem.1 hp
        simp only [List.length_zip] at hk
        refine ⟨k, by omega, ?_, ?_⟩
        · rw [getD_eq (by omega)]; simp
        · rw [getD_eq (by omega)]; simp
      refine updM_shaded x2 _ x0 (fun p hp => ?_) ?_ (fun p hp hp0 => ?_)
      · obtain ⟨k, hk, e1, _⟩ := hz p hp
        have := ned_at x1 x0 0 p.1 (by rw [e1]; exact getD_in (by omega) 0)
        omega
      · rw [show ((ned x1 x0 0).2.1.zip (asg (ned x1 x0 0).1 x2).2).map (·.1) = (ned x1 x0 0).2.1 from List.map_fst_zip (by omega)]
        exact ned_rise x1 x0 0
      · obtain ⟨k, hk, e1, e2⟩ := hz p hp
        obtain ⟨j, j1, j2, j3, j4⟩ := ned_get x1 x0 0 k hk
        rw [e2] at hp0
        obtain ⟨t1, t2, t3⟩ := asg_hits (ned x1 x0 0).1 x2 k hk hp0
        rw [j4] at t2
        rw [e1, e2, j2, show ((0 + j : Nat) : Int).toNat = j by simp]
        exact ⟨j3, _, getD_in (by omega) rz, t2, rfl⟩
    · have e : rec43 x0 x1 x2 = ([], ([], (ned x1 x0 0).2.2)) := by unfold rec43; rw [if_pos he]
      rw [e]
      exact pos (by simp [he]) (pos (by simp) (pos (by simp) (bnd example43_ok rfl)))
end Pl
end
