/- Parts of the proof of RecutTwice, joined: C43d, C43e, LRecutTwice. -/
import Derived.Test.YtjkdnhlklpmjhaaRecutTwiceQ2
set_option linter.unusedVariables false
set_option linter.unusedSimpArgs false
section
/- Chapter 43: what Assign keeps to. -/
namespace Pl
open Go Geo Pm
theorem bump0 (r : Rest) : bump r 0 = r := by unfold bump; rw [Int.add_zero]
theorem bump_bump (r : Rest) (a b : Int) : bump (bump r a) b = bump r (a + b) := by unfold bump; simp [Int.add_assoc]
/-- shortened at its beginning, if at all, and within its cloth -/
def Cutd (r s : Rest) (d : Int) : Prop := 0 ≤ d ∧ s = bump r d ∧ (d = 0 ∨ (usb r ∧ r.2.2.1 + d ≤ r.2.2.2))
theorem Cutd.refl (r : Rest) : Cutd r r 0 := ⟨Int.le_refl 0, (bump0 r).symm, Or.inl rfl⟩
theorem Cutd.trans {r s t : Rest} {a b : Int} (h : Cutd r s a) (h2 : Cutd s t b) : Cutd r t (a + b) := by
  obtain ⟨a0, rfl, ha⟩ := h
  obtain ⟨b0, rfl, hb⟩ := h2
  refine ⟨by omega, bump_bump _ _ _, ?_⟩
  unfold usb bump at *
  simp only at *
  omega
theorem suit_cutd {n : Need} {r : Rest} (h : suit n r) : Cutd r (bump r n.2) n.2 := by
  obtain ⟨h1, h2, h3, h4⟩ := h
  unfold okN at h1
  refine ⟨by omega, rfl, Or.inr ⟨h2, by omega⟩⟩
theorem suit_back {n : Need} {r s : Rest} {d : Int} (h : Cutd r s d) (hs : suit n s) : suit n r := by
  obtain ⟨d0, rfl, hd⟩ := h
  obtain ⟨h1, h2, h3, h4⟩ := hs
  refine ⟨h1, ?_, h3, ?_⟩
  · unfold usb bump at *
    simp only at *
    omega
  · unfold bump at h4
    simp only at h4
    omega
theorem getD_set_eq {α : Type} {l : List α} {j : Nat} (h : j < l.length) (x z : α) : (l.set j x).getD j z = x := by simp [List.getD, h]
theorem getD_set_ne {α : Type} {l : List α} {i j : Nat} (h : i ≠ j) (x z : α) : (l.set i x).getD j z = l.getD j z := by simp [List.getD, List.getElem?_set, h]
theorem step_cutd {n : Need} {L : List Rest} {j : Nat} (hj : j < L.length) (hs : suit n (L.getD j rz)) (p : Nat) : ∃ d, Cutd (L.getD p rz) ((L.set j (bump (L.getD j rz) n.2)).getD p rz) d := by
  by_cases e : j = p
  · subst e; rw [getD_set_eq hj]; exact ⟨_, suit_cutd hs⟩
  · rw [getD_set_ne e]; exact ⟨0, Cutd.refl _⟩
theorem asg_cutd : ∀ (ns : List Need) (L : List Rest) (p : Nat), ∃ d, Cutd (L.getD p rz) ((asg ns L).1.getD p rz) d
  | [], L, p => ⟨0, Cutd.refl _⟩
  | n :: ns, L, p => by
    rcases fx0 (n := n) (L := L) with hk | ⟨j, hj, hk, hs⟩
    · rw [asg_no hk]; exact asg_cutd ns L p
    · rw [asg_yes hk]
      obtain ⟨a, ha⟩ := step_cutd hj hs p
      obtain ⟨b, hb⟩ := asg_cutd ns (L.set j (bump (L.getD j rz) n.2)) p
      exact ⟨_, ha.trans hb⟩
/-- who gets nothing finds nothing among what remains -/
theorem asg_greedy : ∀ (ns : List Need) (L : List Rest) (i : Nat), i < ns.length → (asg ns L).2.getD i 0 < 0 → ∀ p, p < L.length → ¬ suit (ns.getD i (0, 0)) ((asg ns L).1.getD p rz)
  | [], L, i, h, _, _, _ => by cases h
  | n :: ns, L, i, h, ha, p, hp => by
    intro hs
    cases i with
    | zero =>
      have hs : suit n ((asg (n :: ns) L).1.getD p rz) := hs
      obtain ⟨d, hd⟩ := asg_cutd (n :: ns) L p
      have h1 := suit_back hd hs
      rcases fx_spec n L 0 with ⟨h2, h3⟩ | ⟨j, h2, h3, _, _⟩
      · exact h3 _ (getD_in hp rz) h1
      · rw [asg_yes (j := j) (by rw [h3]; simp)] at ha
        have ha : ((j : Nat) : Int) < 0 := ha
        omega
    | succ i =>
      have h : i < ns.length := by simpa using h
      rcases fx0 (n := n) (L := L) with hk | ⟨j, hj, hk, _⟩
      · rw [asg_no hk] at ha hs
        exact asg_greedy ns L i h ha p hp hs
      · rw [asg_yes hk] at ha hs
        exact asg_greedy ns _ i h ha p (by rw [List.length_set]; exact hp) hs
theorem asg_hits : ∀ (ns : List Need) (L : List Rest) (i : Nat), i < ns.length → 0 ≤ (asg ns L).2.getD i 0 → (asg ns L).2.getD i 0 < (L.length : Int) ∧ (L.getD ((asg ns L).2.getD i 0).toNat rz).2.1 = (ns.getD i (0, 0)).1 ∧ okN (ns.getD i (0, 0))
  | [], L, i, h, _ => by cases h
  | n :: ns, L, i, h, ha => by
    cases i with
    | zero =>
      rcases fx0 (n := n) (L := L) with hk | ⟨j, hj, hk, hs⟩
      · rw [asg_no hk] at ha
        have ha : 0 ≤ fx n L 0 := ha
        omega
      · rw [asg_yes hk]
        show ((j : Nat) : Int) < _ ∧ (L.getD ((j : Nat) : Int).toNat rz).2.1 = n.1 ∧ okN n
        rw [Int.toNat_natCast]
        exact ⟨by omega, hs.2.2.1, hs.1⟩
    | succ i =>
      have h : i < ns.length := by simpa using h
      rcases fx0 (n := n) (L := L) with hk | ⟨j, hj, hk, hs⟩
      · rw [asg_no hk] at ha ⊢
        exact asg_hits ns L i h ha
      · rw [asg_yes hk] at ha ⊢
        have := asg_hits ns _ i h ha
        rw [List.length_set] at this
        refine ⟨this.1, ?_, this.2.2⟩
        have h2 := this.2.1
        show (L.getD ((asg ns (L.set j (bump (L.getD j rz) n.2))).2.getD i 0).toNat rz).2.1 = (ns.getD i (0, 0)).1
        by_cases e : j = ((asg ns (L.set j (bump (L.getD j rz) n.2))).2.getD i 0).toNat
        · rw [← e, getD_set_eq hj] at h2
          rw [← e]; exact h2
        · rw [getD_set_ne e] at h2
          exact h2
end Pl
end
section
/- Chapter 43: what is replaced. -/
namespace Pl
open Go Geo Pm
/-- a piece as it was, or replaced -/
def Shaded (rests : List Rest) (x y : Cut) : Prop := x = y ∨ (dam x = true ∧ ∃ k, y = repl x k ∧ ∃ r ∈ rests, r.2.1 = x.2.2.1 ∧ r.1 = k)
theorem Shaded.trans_no {rests : List Rest} {x y : Cut} (h : Shaded rests x y) (hd : dam y = true) : x = y := by
  rcases h with h | ⟨_, k, rfl, _⟩
  · exact h
  · simp [dam, repl] at hd
/-- replacing at places of damaged pieces that rise, by rests of their lots -/
theorem updM_shaded (rests : List Rest) : ∀ (ps : List (Int × Int)) (out : List Cut), (∀ p ∈ ps, 0 ≤ p.1 ∧ p.1 < (out.length : Int)) → (ps.map (·.1)).Pairwise (· < ·) → (∀ p ∈ ps, 0 ≤ p.2 → dam (out.getD p.1.toNat cz0) = true ∧ ∃ r ∈ rests, r.2.1 = (out.getD p.1.toNat cz0).2.2.1 ∧ r.1 = (rests.getD p.2.toNat rz).1) →
    ∀ j, j < out.length → Shaded rests (out.getD j cz0) ((updM rests ps out).getD j cz0)
  | [], out, _, _, _, j, hj => Or.inl rfl
  | p :: ps, out, hr, hp, hd, j, hj => by
    rw [List.map_cons, List.pairwise_cons] at hp
    unfold updM
    split
    · rename_i h0
      obtain ⟨d1, d2⟩ := hd p List.mem_cons_self h0
      have hr0 := hr p List.mem_cons_self
      have ne : ∀ q ∈ ps, p.1.toNat ≠ q.1.toNat := fun q hq => by
        have := hp.1 q.1 (List.mem_map_of_mem hq)
        have := hr q (List.mem_cons_of_mem _ hq)
        omega
      have ih := updM_shaded rests ps (out.set p.1.toNat (repl (out.getD p.1.toNat cz0) (rests.getD p.2.toNat rz).1)) (by intro q hq; rw [List.length_set]; exact hr q (List.mem_cons_of_mem _ hq)) hp.2 (fun q hq hq0 => by
        rw [getD_set_ne (ne q hq)]; exact hd q (List.mem_cons_of_mem _ hq) hq0) j (by rw [List.length_set]; exact hj)
      by_cases e : p.1.toNat = j
      · subst e
        rw [getD_set_eq (by omega)] at ih
        rcases ih with ih | ⟨ih, _⟩
        · rw [← ih]; exact Or.inr ⟨d1, _, rfl, d2⟩
        · simp [dam, repl] at ih
      · rw [getD_set_ne e] at ih
        exact ih
    · exact updM_shaded rests ps out (fun q hq => hr q (List.mem_cons_of_mem _ hq)) hp.2 (fun q hq => hd q (List.mem_cons_of_mem _ hq)) j hj
theorem ned_rise (polys : Polys) : ∀ (cs : List Cut) (i : Nat), (ned polys cs i).2.1.Pairwise (· < ·)
  | [], i => by simp [ned]
  | c :: cs, i => by
    cases hd : dam c with
    | false => rw [ned_f hd]; exact ned_rise polys cs (i + 1)
    | true =>
      by_cases h2 : nerr polys c = 0
      · by_cases h3 : (ned polys cs (i + 1)).2.2 = 0
        · rw [ned_k hd h2 h3]
          refine List.pairwise_cons.2 ⟨fun x hx => ?_, ned_rise polys cs (i + 1)⟩
          have := (ned_at polys cs (i + 1) x hx).1
          omega
        · rw [ned_t hd h2 h3]; exact List.Pairwise.nil
      · rw [ned_e hd h2]; exact List.Pairwise.nil
/-- the k-th need is that of the damaged piece at its place -/
theorem ned_get (polys : Polys) : ∀ (cs : List Cut) (i k : Nat), k < (ned polys cs i).1.length → ∃ j, j < cs.length ∧ (ned polys cs i).2.1.getD k 0 = ((i + j : Nat) : Int) ∧ dam (cs.getD j cz0) = true ∧ (ned polys cs i).1.getD k (0, 0) = ((cs.getD j cz0).2.2.1, wid polys (cs.getD j cz0))
  | [], i, k, h => by simp [ned] at h
  | c :: cs, i, k, h => by
    cases hd : dam c with
    | false =>
      rw [ned_f hd] at h ⊢
      obtain ⟨j, h1, h2, h3, h4⟩ := ned_get polys cs (i + 1) k h
      exact ⟨j + 1, by simpa using h1, by rw [h2]; congr 1; omega, h3, h4⟩
    | true =>
      by_cases h2 : nerr polys c = 0
      · by_cases h3 : (ned polys cs (i + 1)).2.2 = 0
        · rw [ned_k hd h2 h3] at h ⊢
          cases k with
          | zero => exact ⟨0, by simp, rfl, hd, rfl⟩
          | succ k =>
            obtain ⟨j, h1, h5, h6, h7⟩ := ned_get polys cs (i + 1) k (by simpa using h)
            exact ⟨j + 1, by simpa using h1, by show (ned polys cs (i + 1)).2.1.getD k 0 = _; rw [h5]; congr 1; omega, h6, h7⟩
        · rw [ned_t hd h2 h3] at h; simp at h
      · rw [ned_e hd h2] at h; simp at h
end Pl
end
section
/- RecutTwice: a second Recut with the remaining rests changes nothing, for all pieces, polygons and rests within the bounds. -/
namespace Pl
open Go Geo Pm
theorem ned_zero (polys : Polys) : ∀ (cs : List Cut) (i : Nat), (ned polys cs i).2.2 = 0 ↔ ∀ c ∈ cs, dam c = true → nerr polys c = 0
  | [], i => by simp [ned]
  | c :: cs, i => by
    have ih := ned_zero polys cs (i + 1)
    rw [List.forall_mem_cons, ← ih]
    cases hd : dam c with
    | false => rw [ned_f hd]; simp
    | true =>
      by_cases h2 : nerr polys c = 0
      · by_cases h3 : (ned polys cs (i + 1)).2.2 = 0
        · rw [ned_k hd h2 h3]; simp [h2, h3]
        · rw [ned_t hd h2 h3]; simp [h3]
      · rw [ned_e hd h2]; simp [h2]
theorem ned_find (polys : Polys) : ∀ (cs : List Cut) (i : Nat), (ned polys cs i).2.2 = 0 → ∀ j, j < cs.length → dam (cs.getD j cz0) = true → ∃ k, k < (ned polys cs i).1.length ∧ (ned polys cs i).2.1.getD k 0 = ((i + j : Nat) : Int) ∧ (ned polys cs i).1.getD k (0, 0) = ((cs.getD j cz0).2.2.1, wid polys (cs.getD j cz0))
  | [], i, _, j, hj, _ => by cases hj
  | c :: cs, i, h0, j, hj, hdj => by
    cases hd : dam c with
    | false =>
      rw [ned_f hd] at h0 ⊢
      cases j with
      | zero => rw [show (c :: cs).getD 0 cz0 = c from rfl, hd] at hdj; cases hdj
      | succ j =>
        obtain ⟨k, h1, h2, h3⟩ := ned_find polys cs (i + 1) h0 j (by simpa using hj) hdj
        exact ⟨k, h1, by rw [h2]; congr 1; omega, h3⟩
    | true =>
      by_cases h2 : nerr polys c = 0
      · by_cases h3 : (ned polys cs (i + 1)).2.2 = 0
        · rw [ned_k hd h2 h3]
          cases j with
          | zero => exact ⟨0, by simp, rfl, rfl⟩
          | succ j =>
            obtain ⟨k, h5, h6, h7⟩ := ned_find polys cs (i + 1) h3 j (by simpa using hj) hdj
            exact ⟨k + 1, by simpa using h5, by show (ned polys cs (i + 1)).2.1.getD k 0 = _; rw [h6]; congr 1; omega, h7⟩
        · rw [ned_t hd h2 h3] at h0; exact absurd h0 h3
      · rw [ned_e hd h2] at h0; exact absurd h0 h2
theorem updM_undam (rests : List Rest) : ∀ (ps : List (Int × Int)) (out : List Cut) (j : Nat), j < out.length → dam (out.getD j cz0) = false → dam ((updM rests ps out).getD j cz0) = false
  | [], out, j, _, h => h
  | p :: ps, out, j, hj, h => by
    unfold updM
    split
    · refine updM_undam rests ps _ j (by rw [List.length_set]; exact hj) ?_
      by_cases e : p.1.toNat = j
      · rw [e, getD_set_eq hj]; rfl
      · rw [getD_set_ne e]; exact h
    · exact updM_undam rests ps out j hj h
theorem updM_hit (rests : List Rest) : ∀ (ps : List (Int × Int)) (out : List Cut) (p : Int × Int), p ∈ ps → 0 ≤ p.2 → p.1.toNat < out.length → dam ((updM rests ps out).getD p.1.toNat cz0) = false
  | [], out, p, h, _, _ => by cases h
  | q :: ps, out, p, h, h0, hl => by
    rcases List.mem_cons.1 h with rfl | h
    · unfold updM
      rw [if_pos h0]
      exact updM_undam rests ps _ _ (by rw [List.length_set]; exact hl) (by rw [getD_set_eq hl]; rfl)
    · unfold updM
      split
      · exact updM_hit rests ps _ p h h0 (by rw [List.length_set]; exact hl)
      · exact updM_hit rests ps out p h h0 hl
theorem asg_none : ∀ (ns : List Need) (L : List Rest), (∀ n ∈ ns, ∀ p, p < L.length → ¬ suit n (L.getD p rz)) → (asg ns L).1 = L ∧ ∀ x ∈ (asg ns L).2, x < 0
  | [], L, _ => ⟨rfl, fun x h => by cases h⟩
  | n :: ns, L, h => by
    have hk : fx n L 0 < 0 := by
      rcases fx_spec n L 0 with ⟨h1, _⟩ | ⟨j, h1, _, h3, _⟩
      · omega
      · exact absurd h3 (h n List.mem_cons_self j h1)
    obtain ⟨i1, i2⟩ := asg_none ns L fun m hm => h m (List.mem_cons_of_mem _ hm)
    rw [asg_no hk]
    refine ⟨i1, fun x hx => ?_⟩
    rcases List.mem_cons.1 hx with rfl | hx
    · exact hk
    · exact i2 x hx
theorem updM_none (rests : List Rest) : ∀ (ps : List (Int × Int)) (out : List Cut), (∀ p ∈ ps, p.2 < 0) → updM rests ps out = out
  | [], out, _ => rfl
  | p :: ps, out, h => by
    unfold updM
    have := h p List.mem_cons_self
    rw [if_neg (by omega)]
    exact updM_none rests ps out fun q hq => h q (List.mem_cons_of_mem _ hq)
theorem rec43_twice {cuts : List Cut} {polys : Polys} {rests : List Rest} (h0 : (ned polys cuts 0).2.2 = 0) : rec43 (updM rests ((ned polys cuts 0).2.1.zip (asg (ned polys cuts 0).1 rests).2) cuts) polys (asg (ned polys cuts 0).1 rests).1 = (updM rests ((ned polys cuts 0).2.1.zip (asg (ned polys cuts 0).1 rests).2) cuts, ((asg (ned polys cuts 0).1 rests).1, 0)) := by
  obtain ⟨n1, n2⟩ := ned_len polys cuts 0
  obtain ⟨l1, l2⟩ := asg_len (ned polys cuts 0).1 rests
  have hz : ∀ p ∈ (ned polys cuts 0).2.1.zip (asg (ned polys cuts 0).1 rests).2, ∃ k, k < (ned polys cuts 0).1.length ∧ p.1 = (ned polys cuts 0).2.1.getD k 0 ∧ p.2 = (asg (ned polys cuts 0).1 rests).2.getD k 0 := fun p hp => by
    obtain ⟨k, hk, rfl⟩ := List.mem_iff_getElem.1 hp
    simp only [List.length_zip] at hk
    refine ⟨k, by omega, ?_, ?_⟩
    · rw [getD_eq (by omega)]; simp
    · rw [getD_eq (by omega)]; simp
  have hlen : (updM rests ((ned polys cuts 0).2.1.zip (asg (ned polys cuts 0).1 rests).2) cuts).length = cuts.length := updM_len _ _ _
  have hsh : ∀ j, j < cuts.length → Shaded rests (cuts.getD j cz0) ((updM rests ((ned polys cuts 0).2.1.zip (asg (ned polys cuts 0).1 rests).2) cuts).getD j cz0) := by
    refine updM_shaded rests _ cuts (fun p hp => ?_) ?_ (fun p hp hp0 => ?_)
    · obtain ⟨k, hk, e1, _⟩ := hz p hp
      have := ned_at polys cuts 0 p.1 (by rw [e1]; exact getD_in (by omega) 0)
      omega
    · rw [show ((ned polys cuts 0).2.1.zip (asg (ned polys cuts 0).1 rests).2).map (·.1) = (ned polys cuts 0).2.1 from List.map_fst_zip (by omega)]
      exact ned_rise polys cuts 0
    · obtain ⟨k, hk, e1, e2⟩ := hz p hp
      obtain ⟨j, j1, j2, j3, j4⟩ := ned_get polys cuts 0 k hk
      rw [e2] at hp0
      obtain ⟨t1, t2, t3⟩ := asg_hits (ned polys cuts 0).1 rests k hk hp0
      rw [j4] at t2
      rw [e1, e2, j2, show ((0 + j : Nat) : Int).toNat = j by simp]
      exact ⟨j3, _, getD_in (by omega) rz, t2, rfl⟩
  have hit : ∀ k, k < (ned polys cuts 0).1.length → 0 ≤ (asg (ned polys cuts 0).1 rests).2.getD k 0 → dam ((updM rests ((ned polys cuts 0).2.1.zip (asg (ned polys cuts 0).1 rests).2) cuts).getD ((ned polys cuts 0).2.1.getD k 0).toNat cz0) = false := fun k hk h => by
    have hm : ((ned polys cuts 0).2.1.getD k 0, (asg (ned polys cuts 0).1 rests).2.getD k 0) ∈ (ned polys cuts 0).2.1.zip (asg (ned polys cuts 0).1 rests).2 := by
      refine List.mem_iff_getElem.2 ⟨k, by simp; omega, ?_⟩
      rw [getD_eq (by omega), getD_eq (by omega)]; simp
    have := ned_at polys cuts 0 ((ned polys cuts 0).2.1.getD k 0) (getD_in (by omega) 0)
    exact updM_hit rests _ cuts _ hm h (by simp only; omega)
  generalize hl : updM rests ((ned polys cuts 0).2.1.zip (asg (ned polys cuts 0).1 rests).2) cuts = l at *
  generalize hF : (asg (ned polys cuts 0).1 rests).1 = F at *
  have e0 : (ned polys l 0).2.2 = 0 := by
    rw [ned_zero] at h0 ⊢
    intro c hc hd
    obtain ⟨j, hj, rfl⟩ := List.mem_iff_getElem.1 hc
    have := hsh j (by omega)
    rw [getD_eq hj] at this
    rw [← this.trans_no hd, getD_eq (by omega)]
    refine h0 _ (List.getElem_mem _) ?_
    have e := this.trans_no hd
    rw [getD_eq (by omega)] at e
    rw [e]; exact hd
  have hno : ∀ n ∈ (ned polys l 0).1, ∀ p, p < F.length → ¬ suit n (F.getD p rz) := by
    intro n hn p hp
    obtain ⟨k', hk', rfl⟩ := List.mem_iff_getElem.1 hn
    obtain ⟨j, j1, j2, j3, j4⟩ := ned_get polys l 0 k' hk'
    rw [getD_eq hk'] at j4
    have e := (hsh j (by omega)).trans_no j3
    obtain ⟨k, k1, k2, k3⟩ := ned_find polys cuts 0 h0 j (by omega) (by rw [e]; exact j3)
    rw [j4, ← e, ← k3, ← hF]
    refine asg_greedy _ _ k k1 ?_ p (by omega)
    refine Int.not_le.1 fun h => ?_
    have := hit k k1 h
    rw [k2, show ((0 + j : Nat) : Int).toNat = j by simp, j3] at this
    cases this
  obtain ⟨a1, a2⟩ := asg_none (ned polys l 0).1 F hno
  unfold rec43
  rw [if_neg (by simp [e0]), a1, updM_none]
  intro p hp
  obtain ⟨k, hk, rfl⟩ := List.mem_iff_getElem.1 hp
  simp only [List.length_zip] at hk
  rw [List.getElem_zip]
  exact a2 _ (List.getElem_mem _)
theorem RecutTwice_pure (x0 : List Cut) (x1 : Polys) (x2 : List Rest) (w0 : wf (.sl t6) x0) (w1 : wf (.sl (.sl t0)) x1) (w2 : wf (.sl t8) x2) : CG 79 [.val (.sl t6) x0, .val (.sl (.sl t0)) x1, .val (.sl t8) x2] = some [.val .bool true] := by
  obtain ⟨r, hr, hf⟩ := few43_ok x0 x1
  refine garmentlaw43_RecutTwice_st x0 x1 x2 (bnd hr ?_)
  cases r with
  | false => exact pos rfl (bnd example43_ok rfl)
  | true =>
    obtain ⟨h1, h2⟩ := hf rfl
    refine neg (by simp) ?_
    by_cases h3 : 30 < x2.length
    · exact pos (dt (by omega)) (bnd example43_ok rfl)
    refine neg (df (by omega)) (bnd (recut_ok (by omega) (fun c hc => by have := h2 c hc; omega) (by omega)) ?_)
    obtain ⟨r1, r2, r3⟩ := rec43_few (polys := x1) (rests := x2) h1 h2
    by_cases he : (ned x1 x0 0).2.2 = 0
    · have e : rec43 x0 x1 x2 = (updM x2 ((ned x1 x0 0).2.1.zip (asg (ned x1 x0 0).1 x2).2) x0, ((asg (ned x1 x0 0).1 x2).1, 0)) := by unfold rec43; rw [if_neg (by simp [he])]
      rw [e] at r1 r2 r3 ⊢
      dsimp only at r1 r2 r3 ⊢
      have e2 := rec43_twice (rests := x2) he
      refine neg (by simp) (bnd (recut_ok (by omega) (fun c hc => by have := r2 c hc; omega) (by omega)) ?_)
      rw [e2]
      dsimp only
      refine pos (by simp) (bnd (sameCs_ok (by omega) (fun c hc => by have := r2 c hc; omega)) (pos (by simp) (bnd (sameR_ok (by omega)) (pos (by simp) (bnd example43_ok rfl)))))
    · have e : rec43 x0 x1 x2 = ([], ([], (ned x1 x0 0).2.2)) := by unfold rec43; rw [if_pos he]
      rw [e]
      exact pos (by simp [he]) (bnd example43_ok rfl)
end Pl
end
