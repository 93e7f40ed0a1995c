/- Parts of the proof of PathBegins, joined: C41c, C41d, K11, Aw41, LPathBegins. -/
import Derived.Test.YtlplkmalllakiaaPathBeginsQ2
set_option linter.unusedVariables false
set_option linter.unusedSimpArgs false
section
/- Chapter 41: what turning a part round gains; the improved order. -/
namespace Pl
open Go Geo Pm
/-- the ways between those of a list -/
def inn (polys : Polys) : List Int → Int
  | a :: b :: l => dis (ptA polys a) (ptA polys b) + inn polys (b :: l)
  | _ => 0
theorem inn_two (polys : Polys) (a b : Int) (l : List Int) : inn polys (a :: b :: l) = dis (ptA polys a) (ptA polys b) + inn polys (b :: l) := rfl
theorem inn_snoc (polys : Polys) (A : List Int) (x y : Int) : inn polys (A ++ [x] ++ [y]) = inn polys (A ++ [x]) + dis (ptA polys x) (ptA polys y) := by
  induction A with
  | nil => show dis _ _ + 0 = 0 + dis _ _; omega
  | cons a A ih =>
    cases A with
    | nil => show dis _ _ + (dis _ _ + 0) = (dis _ _ + 0) + dis _ _; omega
    | cons b A =>
      simp only [List.cons_append, inn_two] at ih ⊢
      rw [ih]; omega
theorem inn_rev (polys : Polys) (L : List Int) : inn polys L.reverse = inn polys L := by
  induction L with
  | nil => rfl
  | cons a L ih =>
    cases L with
    | nil => rfl
    | cons b L =>
      rw [List.reverse_cons, List.reverse_cons, inn_snoc, ← List.reverse_cons, ih, dis_symm, inn_two]; omega
theorem tr_inn (polys : Polys) : ∀ (L : List Int) (s : IP) (a : Int), tr polys s (a :: L) = dis s (ptA polys a) + inn polys (a :: L)
  | [], s, a => rfl
  | b :: L, s, a => by
    rw [inn_two]
    show dis s (ptA polys a) + tr polys (ptA polys a) (b :: L) = _
    rw [tr_inn polys L (ptA polys a) b]
/-- where a way ends -/
def endA (polys : Polys) (s : IP) : List Int → IP
  | [] => s
  | k :: l => endA polys (ptA polys k) l
theorem tr_app (polys : Polys) : ∀ (A B : List Int) (s : IP), tr polys s (A ++ B) = tr polys s A + tr polys (endA polys s A) B
  | [], B, s => by simp [tr, endA]
  | a :: A, B, s => by
    show dis s (ptA polys a) + tr polys (ptA polys a) (A ++ B) = _
    rw [tr_app polys A B]
    show _ = dis s (ptA polys a) + tr polys (ptA polys a) A + tr polys (endA polys (ptA polys a) A) B
    omega
theorem endA_snoc (polys : Polys) : ∀ (A : List Int) (s : IP) (x : Int), endA polys s (A ++ [x]) = ptA polys x
  | [], s, x => rfl
  | a :: A, s, x => endA_snoc polys A (ptA polys a) x
/-- a part turned round -/
def turnd (o : List Int) (i k : Nat) : List Int := o.take i ++ (((o.take (k + 1)).drop i).reverse ++ o.drop (k + 1))
/-- by how much the way becomes shorter -/
def gn (polys : Polys) (o : List Int) (i k : Nat) : Int :=
  let s := if 0 < i then ptA polys (o.getD (i - 1) 0) else (0, 0)
  let a := ptA polys (o.getD i 0)
  let b := ptA polys (o.getD k 0)
  (dis s a - dis s b) + (if k + 1 < o.length then dis b (ptA polys (o.getD (k + 1) 0)) - dis a (ptA polys (o.getD (k + 1) 0)) else 0)
theorem mid_ends {o : List Int} {i k : Nat} (hik : i ≤ k) (hk : k < o.length) : ∃ M N, (o.take (k + 1)).drop i = o.getD i 0 :: M ∧ (o.take (k + 1)).drop i = N ++ [o.getD k 0] := by
  refine ⟨(o.take (k + 1)).drop (i + 1), (o.take k).drop i, ?_, ?_⟩
  · rw [drop_cons (by rw [List.length_take]; omega), getD_eq (by omega)]
    congr 1
    exact List.getElem_take
  · rw [List.take_succ_eq_append_getElem hk, List.drop_append_of_le_length (by rw [List.length_take]; omega), getD_eq hk]
theorem gain_tr {polys : Polys} {o : List Int} {i k : Nat} (hik : i ≤ k) (hk : k < o.length) : tr polys (0, 0) o - tr polys (0, 0) (turnd o i k) = gn polys o i k := by
  obtain ⟨M, N, h1, h2⟩ := mid_ends hik hk
  have e1 : o = o.take i ++ ((o.take (k + 1)).drop i ++ o.drop (k + 1)) := by
    have a1 : o.take i = (o.take (k + 1)).take i := by rw [List.take_take]; congr 1; omega
    rw [← List.append_assoc, a1, List.take_append_drop, List.take_append_drop]
  have hs : endA polys (0, 0) (o.take i) = if 0 < i then ptA polys (o.getD (i - 1) 0) else (0, 0) := by
    by_cases h0 : 0 < i
    · rw [if_pos h0]
      have : o.take i = o.take (i - 1) ++ [o.getD (i - 1) 0] := by
        rw [getD_eq (by omega), ← List.take_succ_eq_append_getElem (by omega)]
        congr 1; omega
      rw [this, endA_snoc]
    · rw [if_neg h0, show i = 0 by omega]; rfl
  unfold turnd gn
  rw [show tr polys (0, 0) o = tr polys (0, 0) (o.take i ++ ((o.take (k + 1)).drop i ++ o.drop (k + 1))) by rw [← e1]]
  rw [tr_app polys (o.take i), tr_app polys (o.take i), hs]
  generalize (if 0 < i then ptA polys (o.getD (i - 1) 0) else (0, 0)) = s
  rw [tr_app, tr_app]
  have ha : (o.take (k + 1)).drop i = o.getD i 0 :: M := h1
  have t1 : tr polys s ((o.take (k + 1)).drop i) = dis s (ptA polys (o.getD i 0)) + inn polys ((o.take (k + 1)).drop i) := by rw [h1, tr_inn]
  have t2 : tr polys s ((o.take (k + 1)).drop i).reverse = dis s (ptA polys (o.getD k 0)) + inn polys ((o.take (k + 1)).drop i) := by
    rw [← inn_rev polys ((o.take (k + 1)).drop i), h2, List.reverse_append]
    show tr polys s (o.getD k 0 :: N.reverse) = _
    rw [tr_inn]; rfl
  have t3 : endA polys s ((o.take (k + 1)).drop i) = ptA polys (o.getD k 0) := by rw [h2, endA_snoc]
  have t4 : endA polys s ((o.take (k + 1)).drop i).reverse = ptA polys (o.getD i 0) := by rw [h1, List.reverse_cons, endA_snoc]
  rw [t1, t2, t3, t4]
  dsimp only
  by_cases hc : k + 1 < o.length
  · rw [if_pos hc, drop_cons hc, getD_eq hc 0]
    simp only [tr]
    omega
  · rw [if_neg hc, List.drop_of_length_le (show o.length ≤ k + 1 by omega)]
    simp only [tr]
    omega
theorem turnd_len {o : List Int} {i k : Nat} (hik : i ≤ k) (hk : k < o.length) : (turnd o i k).length = o.length := by
  unfold turnd
  simp only [List.length_append, List.length_reverse, List.length_drop, List.length_take]
  omega
theorem turnd_perm {o : List Int} {i k : Nat} (hik : i ≤ k) (hk : k < o.length) : (turnd o i k).Perm o := by
  have e1 : o = o.take i ++ ((o.take (k + 1)).drop i ++ o.drop (k + 1)) := by
    have a1 : o.take i = (o.take (k + 1)).take i := by rw [List.take_take]; congr 1; omega
    rw [← List.append_assoc, a1, List.take_append_drop, List.take_append_drop]
  unfold turnd
  conv => rhs; rw [e1]
  exact (List.Perm.append_left _ ((List.reverse_perm _).append_right _))
theorem turnd_whole {o : List Int} {n i k : Nat} (h : Whole o n) (hik : i ≤ k) (hk : k < o.length) : Whole (turnd o i k) n := by
  have hp := turnd_perm hik hk
  refine whole_of (by rw [turnd_len hik hk]; exact h.1) (hp.nodup_iff.2 (whole_nodup h)) fun x hx => ?_
  have hx := hp.mem_iff.1 hx
  obtain ⟨j, hj, rfl⟩ := List.mem_iff_getElem.1 hx
  have := (h.2 j (by rw [← h.1]; exact hj)).1
  rwa [getD_eq hj] at this
theorem gn_w {a b c d : Int} (h1 : 0 ≤ a ∧ a ≤ 4194304) (h2 : 0 ≤ b ∧ b ≤ 4194304) (h3 : 0 ≤ c ∧ c ≤ 4194304) (h4 : 0 ≤ d ∧ d ≤ 4194304) : wr .i64 (wr .i64 (a - b) + wr .i64 (c - d)) = (a - b) + (c - d) := by
  rw [wr64 (x := a - b) (by omega) (by omega), wr64 (x := c - d) (by omega) (by omega), wr64 (by omega) (by omega)]
theorem gain_ok {polys : Polys} {o : List Int} (hg : GoodP polys) (hw : Whole o polys.length) {i k : Nat} (hik : i < k) (hk : k < o.length) : callT CG [.v tI] 118 [.val (.sl (.sl t0)) polys, .val (.sl tI) o, .val tI ((i : Nat) : Int), .val tI ((k : Nat) : Int)] = some (gn polys o i k) := by
  refine callT_of (path_gain_st polys o i k (r := [.val tI (gn polys o i k)]) ?_) rfl
  have hr := whole_inR hw
  have hlen := hg.len
  have hol := hw.1
  have at' : ∀ j, j < o.length → (0 ≤ o.getD j 0 ∧ o.getD j 0 < (polys.length : Int)) ∧ 0 < (polys.getD (o.getD j 0).toNat []).length ∧ insP (ptA polys (o.getD j 0)) := fun j hj => by
    have h := hr _ (getD_in hj 0)
    exact ⟨h, hg.at h.1 h.2⟩
  obtain ⟨a1, a2, a3⟩ := at' i (by omega)
  obtain ⟨b1, b2, b3⟩ := at' k hk
  have db : ∀ {x y : IP}, insP x → insP y → 0 ≤ dis x y ∧ dis x y ≤ 4194304 := fun hx hy => ⟨dis_nn _ _, dis_bound hx hy⟩
  unfold gn
  by_cases h0 : 0 < i
  · obtain ⟨c1, c2, c3⟩ := at' (i - 1) (by omega)
    refine pos (dt (by omega)) ?_
    rw [wr64 (x := (i : Int) - 1) (by omega) (by omega), show (i : Int) - 1 = ((i - 1 : Nat) : Int) by omega, wrS (by omega)]
    simp only [Int.toNat_natCast]
    rw [if_pos h0]
    refine pos (by omega) (pos c1 (pos (by omega) (pos (by omega) (pos a1 (pos (by omega) (pos (by omega) (pos b1 (pos (by omega) (bnd (v := dis (ptA polys (o.getD (i - 1) 0)) (ptA polys (o.getD i 0))) (dist_ok c3 a3) (bnd (v := dis (ptA polys (o.getD (i - 1) 0)) (ptA polys (o.getD k 0))) (dist_ok c3 b3) ?_))))))))))
    by_cases h1 : k + 1 < o.length
    · obtain ⟨d1, d2, d3⟩ := at' (k + 1) h1
      refine pos (dt (by omega)) (pos (by omega) (pos d1 (pos (by omega) (bnd (v := dis (ptA polys (o.getD k 0)) (ptA polys (o.getD (k + 1) 0))) (dist_ok b3 d3) (bnd (v := dis (ptA polys (o.getD i 0)) (ptA polys (o.getD (k + 1) 0))) (dist_ok a3 d3) ?_)))))
      rw [gn_w (db c3 a3) (db c3 b3) (db b3 d3) (db a3 d3), if_pos h1]
    · refine neg (df (by omega)) ?_
      have := db c3 a3
      have := db c3 b3
      rw [if_neg h1, wr64 (by omega) (by omega), Int.add_zero]
  · refine neg (df (by omega)) ?_
    rw [wrS (by omega)]
    simp only [Int.toNat_natCast]
    rw [if_neg h0]
    refine pos (by omega) (pos a1 (pos (by omega) (pos (by omega) (pos b1 (pos (by omega) (bnd (v := dis (0, 0) (ptA polys (o.getD i 0))) (dist_ok insP0 a3) (bnd (v := dis (0, 0) (ptA polys (o.getD k 0))) (dist_ok insP0 b3) ?_)))))))
    by_cases h1 : k + 1 < o.length
    · obtain ⟨d1, d2, d3⟩ := at' (k + 1) h1
      refine pos (dt (by omega)) (pos (by omega) (pos d1 (pos (by omega) (bnd (v := dis (ptA polys (o.getD k 0)) (ptA polys (o.getD (k + 1) 0))) (dist_ok b3 d3) (bnd (v := dis (ptA polys (o.getD i 0)) (ptA polys (o.getD (k + 1) 0))) (dist_ok a3 d3) ?_)))))
      rw [gn_w (db insP0 a3) (db insP0 b3) (db b3 d3) (db a3 d3), if_pos h1]
    · refine neg (df (by omega)) ?_
      have := db insP0 a3
      have := db insP0 b3
      rw [if_neg h1, wr64 (by omega) (by omega), Int.add_zero]
theorem revI_lp {l : List Int} (hl : l.length < 4611686018427387904) : ∀ (m i : Nat), l.length ≤ 2 * i + m → 2 * i ≤ l.length + 1 →
    slices_Reverse_int_int_lp1 CG l (i : Int) ((l.length : Int) - 1 - i) (swp l 0 i) = some [.own tI l.reverse]
  | 0, i, h, h2 => by
    refine slices_Reverse_int_int_lp1_st _ _ _ _ ?_
    refine neg (df (by omega)) ?_
    rw [swp_end _ _ _ (by omega)]
  | m + 1, i, h, h2 => by
    refine slices_Reverse_int_int_lp1_st _ _ _ _ ?_
    rw [List.length_set, swp_len]
    by_cases hc : 2 * i + 1 < l.length
    · refine pos (dt (by omega)) (pos (by omega) (pos (by omega) (pos (by omega) (pos (by omega) ?_))))
      rw [wrS (by omega), wr64 (by omega) (by omega), show (l.length : Int) - 1 - i = ((l.length - 1 - i : Nat) : Int) by omega, Int.toNat_natCast, Int.toNat_natCast, swp_step l _ i hc, show ((l.length - 1 - i : Nat) : Int) - 1 = (l.length : Int) - 1 - ((i + 1 : Nat) : Int) by omega]
      exact revI_lp hl m (i + 1) (by omega) (by omega)
    · refine neg (df (by omega)) ?_
      rw [swp_end _ _ _ (by omega)]
theorem reverseI_ok {l : List Int} (hl : l.length < 4611686018427387904) : callT CG [.o tI] 119 [.own tI l] = some l.reverse := by
  refine callT_of (slices_Reverse_int_int_st l (r := [.own tI l.reverse]) ?_) rfl
  rw [wr64 (by omega) (by omega)]
  have := revI_lp hl l.length 0 (by omega) (by omega)
  rw [swp0] at this
  simpa using this
theorem grow_ok {n : Nat} (hn : n < 17592186044416) : callT CG [.o tI] 121 [.nil, .val tI ((n : Nat) : Int)] = some [] := by
  refine callT_of (slices_Grow_int_int_st (n : Int) (r := [.own tI []]) ?_) rfl
  have e : wr .i64 ((n : Int) - wr .i64 ((0 : Int) - ((0 : Nat) : Int))) = (n : Int) := by
    rw [wr64 (x := (0 : Int) - ((0 : Nat) : Int)) (by omega) (by omega), wr64 (by omega) (by omega)]; omega
  rw [e]
  refine neg (df (by omega)) ?_
  by_cases h : 0 < n
  · refine pos (dt (by omega)) (pos (by simp) (pos (by omega) (pos (by simp) ?_)))
    simp
  · exact neg (df (by omega)) rfl
theorem concat_lp2 {ls : List (List Int)} (hl : ls.length < 1000) (hs : ls.flatten.length < 17592186044416) : ∀ (m i : Nat), i + m = ls.length →
    slices_Concat_int_int_lp2 CG ls ls (ls.length : Int) (i : Int) (ls.take i).flatten = some [.own tI ls.flatten]
  | 0, i, h => by
    refine slices_Concat_int_int_lp2_st _ _ _ _ _ (neg (ige (by omega)) ?_)
    rw [List.take_of_length_le (by omega)]
  | m + 1, i, h => by
    have hi : i < ls.length := by omega
    have ih := concat_lp2 hl hs m (i + 1) (by omega)
    rw [List.take_succ_eq_append_getElem hi, List.flatten_append, List.flatten_singleton] at ih
    refine slices_Concat_int_int_lp2_st _ _ _ _ _ ?_
    rw [Int.toNat_natCast, getD_eq hi, wrS (by omega)]
    have e : ls.flatten.length = (ls.take i).flatten.length + ls[i].length + (ls.drop (i + 1)).flatten.length := by
      have : ls.flatten = (ls.take i).flatten ++ (ls[i] ++ (ls.drop (i + 1)).flatten) := by
        conv => lhs; rw [← List.take_append_drop i ls, drop_cons hi, List.flatten_append, List.flatten_cons]
      rw [this]; simp; omega
    exact pos (ilt hi) (pos (ixn hi) (pos (by omega) ih))
theorem concat_lp1 {ls : List (List Int)} (hl : ls.length < 1000) (hs : ls.flatten.length < 17592186044416) : ∀ (m i : Nat), i + m = ls.length →
    slices_Concat_int_int_lp1 CG ls ls ((ls.take i).flatten.length : Int) ls (ls.length : Int) (i : Int) = some [.own tI ls.flatten]
  | 0, i, h => by
    refine slices_Concat_int_int_lp1_st _ _ _ _ _ _ (neg (ige (by omega)) ?_)
    rw [List.take_of_length_le (by omega)]
    exact bnd (grow_ok hs) (concat_lp2 hl hs ls.length 0 (by omega))
  | m + 1, i, h => by
    have hi : i < ls.length := by omega
    have ih := concat_lp1 hl hs m (i + 1) (by omega)
    have e : ls.flatten.length = (ls.take i).flatten.length + ls[i].length + (ls.drop (i + 1)).flatten.length := by
      have : ls.flatten = (ls.take i).flatten ++ (ls[i] ++ (ls.drop (i + 1)).flatten) := by
        conv => lhs; rw [← List.take_append_drop i ls, drop_cons hi, List.flatten_append, List.flatten_cons]
      rw [this]; simp; omega
    rw [List.take_succ_eq_append_getElem hi, List.flatten_append, List.flatten_singleton, List.length_append] at ih
    refine slices_Concat_int_int_lp1_st _ _ _ _ _ _ ?_
    rw [Int.toNat_natCast, getD_eq hi, wrS (by omega), wr64 (by omega) (by omega), show ((ls.take i).flatten.length : Int) + (ls[i].length : Int) = (((ls.take i).flatten.length + ls[i].length : Nat) : Int) by omega]
    exact pos (ilt hi) (pos (ixn hi) (neg (df (by omega)) ih))
theorem concat_ok {ls : List (List Int)} (hl : ls.length < 1000) (hs : ls.flatten.length < 17592186044416) : callT CG [.o tI] 120 [.val (.sl (.sl tI)) ls] = some ls.flatten :=
  callT_of (slices_Concat_int_int_st ls (concat_lp1 hl hs ls.length 0 (by omega))) rfl
/-- the first part from i on that makes the way shorter -/
def bk (polys : Polys) (o : List Int) (i : Nat) : Nat → Nat → Option (List Int)
  | 0, _ => none
  | m + 1, k => if gn polys o i k > 0 then some (turnd o i k) else bk polys o i m (k + 1)
def bi (polys : Polys) (o : List Int) : Nat → Nat → Option (List Int)
  | 0, _ => none
  | m + 1, i => match bk polys o i (o.length - (i + 1)) (i + 1) with
    | some r => some r
    | none => bi polys o m (i + 1)
def bett (polys : Polys) (o : List Int) : Option (List Int) := bi polys o o.length 0
theorem bk_spec {polys : Polys} {o : List Int} {i : Nat} : ∀ (m k : Nat) {r : List Int}, k + m = o.length → i < k → bk polys o i m k = some r → ∃ k', i < k' ∧ k' < o.length ∧ gn polys o i k' > 0 ∧ r = turnd o i k'
  | 0, k, r, _, _, h => by cases h
  | m + 1, k, r, hm, hik, h => by
    unfold bk at h
    by_cases hc : gn polys o i k > 0
    · rw [if_pos hc] at h; injection h with h; exact ⟨k, hik, by omega, hc, h.symm⟩
    · rw [if_neg hc] at h; exact bk_spec m (k + 1) (by omega) (by omega) h
theorem bi_spec {polys : Polys} {o : List Int} : ∀ (m i : Nat) {r : List Int}, i + m = o.length → bi polys o m i = some r → ∃ i' k', i' < k' ∧ k' < o.length ∧ gn polys o i' k' > 0 ∧ r = turnd o i' k'
  | 0, i, r, _, h => by cases h
  | m + 1, i, r, hm, h => by
    unfold bi at h
    cases hb : bk polys o i (o.length - (i + 1)) (i + 1) with
    | some x =>
      rw [hb] at h
      simp only [Option.some.injEq] at h
      obtain ⟨k', h1, h2, h3, h4⟩ := bk_spec _ _ (by omega) (by omega) hb
      exact ⟨i, k', h1, h2, h3, by rw [← h]; exact h4⟩
    | none => rw [hb] at h; exact bi_spec m (i + 1) (by omega) h
theorem bett_spec {polys : Polys} {o r : List Int} (h : bett polys o = some r) : ∃ i k, i < k ∧ k < o.length ∧ gn polys o i k > 0 ∧ r = turnd o i k := bi_spec o.length 0 (by omega) h
theorem bett_whole {polys : Polys} {o r : List Int} (hw : Whole o polys.length) (h : bett polys o = some r) : Whole r polys.length ∧ tr polys (0, 0) r < tr polys (0, 0) o := by
  obtain ⟨i, k, h1, h2, h3, rfl⟩ := bett_spec h
  refine ⟨turnd_whole hw (by omega) h2, ?_⟩
  have := gain_tr (polys := polys) (show i ≤ k by omega) h2
  omega
def bres (o : List Int) : Option (List Int) → List D
  | some r => [.val (.sl tI) r, .val .bool true]
  | none => [.val (.sl tI) o, .val .bool false]
theorem better_lp2 {polys : Polys} {o : List Int} (hg : GoodP polys) (hw : Whole o polys.length) {i : Nat} (hi : i < o.length)
    (hn : path_better_lp1 CG polys o polys o (o.length : Int) ((i + 1 : Nat) : Int) = some (bres o (bi polys o (o.length - (i + 1)) (i + 1)))) : ∀ (m k : Nat), k + m = o.length → i < k →
    path_better_lp2 CG polys o polys o (i : Int) (k : Int) (o.length : Int) (i : Int) = some (bres o (match bk polys o i m k with | some r => some r | none => bi polys o (o.length - (i + 1)) (i + 1)))
  | 0, k, h, hik => by
    have := hg.len
    have := hw.1
    refine path_better_lp2_st _ _ _ _ _ _ _ _ (neg (ige (by omega)) ?_)
    rw [wrS (by omega)]
    exact hn
  | m + 1, k, h, hik => by
    have := hg.len
    have := hw.1
    have hk : k < o.length := by omega
    refine path_better_lp2_st _ _ _ _ _ _ _ _ ?_
    rw [wrS (by omega)]
    refine pos (ilt hk) (bnd (gain_ok hg hw hik hk) ?_)
    unfold bk
    by_cases hc : gn polys o i k > 0
    · refine pos (dt hc) (pos ⟨by omega, by omega, by omega, rfl⟩ ?_)
      simp only [Int.toNat_natCast]
      refine bnd (cloneI_ok (by simp; omega)) (bnd (reverseI_ok (by simp; omega)) (pos ⟨by omega, by omega, trivial⟩ (pos (by omega) (bnd (v := turnd o i k) ?_ ?_))))
      · have e : [o.take i, ((o.take (k + 1)).drop i).reverse, o.drop (k + 1)].flatten = turnd o i k := by simp [turnd]
        have := concat_ok (ls := [o.take i, ((o.take (k + 1)).drop i).reverse, o.drop (k + 1)]) (by simp) (by rw [e, turnd_len (by omega) hk]; omega)
        rw [e] at this
        exact this
      · rw [if_pos hc]; rfl
    · refine neg (df hc) ?_
      rw [if_neg hc]
      exact better_lp2 hg hw hi hn m (k + 1) (by omega) (by omega)
theorem better_lp1 {polys : Polys} {o : List Int} (hg : GoodP polys) (hw : Whole o polys.length) : ∀ (m i : Nat), i + m = o.length →
    path_better_lp1 CG polys o polys o (o.length : Int) (i : Int) = some (bres o (bi polys o m i))
  | 0, i, h => path_better_lp1_st _ _ _ _ _ _ (neg (ige (by omega)) rfl)
  | m + 1, i, h => by
    have := hg.len
    have := hw.1
    have ih := better_lp1 hg hw m (i + 1) (by omega)
    rw [show m = o.length - (i + 1) by omega] at ih
    refine path_better_lp1_st _ _ _ _ _ _ (pos (ilt (by omega)) ?_)
    rw [wrS (by omega)]
    have := better_lp2 hg hw (show i < o.length by omega) ih (o.length - (i + 1)) (i + 1) (by omega) (by omega)
    rw [this]
    show _ = some (bres o (match bk polys o i (o.length - (i + 1)) (i + 1) with | some r => some r | none => bi polys o m (i + 1)))
    rw [show m = o.length - (i + 1) by omega]
theorem better_ok {polys : Polys} {o : List Int} (hg : GoodP polys) (hw : Whole o polys.length) : callT CG [.v (.sl tI), .v .bool] 117 [.val (.sl (.sl t0)) polys, .val (.sl tI) o] = some (match bett polys o with | some r => (r, true) | none => (o, false)) := by
  have h := path_better_st polys o (better_lp1 hg hw o.length 0 (by omega))
  cases hb : bi polys o o.length 0 with
  | some r => rw [hb] at h; refine callT_of h ?_; unfold bett; rw [hb]; rfl
  | none => rw [hb] at h; refine callT_of h ?_; unfold bett; rw [hb]; rfl
/-- improved up to m times -/
def impM (polys : Polys) : Nat → List Int → List Int
  | 0, o => o
  | m + 1, o => match bett polys o with
    | some r => impM polys m r
    | none => o
theorem improve_lp2 {polys : Polys} {order : List Int} (hg : GoodP polys) : ∀ (m t : Nat) (o : List Int), t + m = 1000 → Whole o polys.length →
    path_Improve_lp2 CG polys order polys o (t : Int) = some [.val (.sl tI) (impM polys m o), .val tI 0]
  | 0, t, o, h, hw => path_Improve_lp2_st _ _ _ _ _ (neg (df (by omega)) rfl)
  | m + 1, t, o, h, hw => by
    refine path_Improve_lp2_st _ _ _ _ _ (pos (dt (by omega)) (bnd (better_ok hg hw) ?_))
    rw [wrS (by omega)]
    unfold impM
    cases hb : bett polys o with
    | some r => exact neg (by simp) (improve_lp2 hg m (t + 1) r (by omega) (bett_whole hw hb).1)
    | none => exact pos (by simp) rfl
noncomputable def impE (polys : Polys) (order : List Int) : List Int := if validE polys order = 0 then impM polys 1000 order else []
theorem improve_ok (polys : Polys) (order : List Int) : callT CG [.v (.sl tI), .v tI] 109 [.val (.sl (.sl t0)) polys, .val (.sl tI) order] = some (impE polys order, validE polys order) := by
  refine callT_of (path_Improve_st polys order (r := [.val (.sl tI) (impE polys order), .val tI (validE polys order)]) ?_) rfl
  refine bnd (valid_ok polys order) ?_
  unfold impE
  by_cases h : validE polys order = 0
  · obtain ⟨hg, hw⟩ := valid_zero h
    have := valid_len h
    rw [if_pos h, h]
    refine neg (by simp) (bnd (cloneI_ok (by omega)) ?_)
    refine path_Improve_lp1_st _ _ _ _ _ (pos (dt (by omega)) (bnd (better_ok hg hw) ?_))
    rw [show impM polys 1000 order = (match bett polys order with | some r => impM polys 999 r | none => order) from rfl]
    cases hb : bett polys order with
    | some r => exact neg (by simp) (improve_lp2 hg 999 1 r (by omega) (bett_whole hw hb).1)
    | none => exact pos (by simp) rfl
  · rw [if_neg h]
    exact pos (nn0 h) rfl
end Pl
end
section
/- Chapter 41: the reference's improved order. -/
namespace Pl
open Go Geo Pm
theorem impM_whole {polys : Polys} : ∀ (m : Nat) {o : List Int}, Whole o polys.length → Whole (impM polys m o) polys.length
  | 0, o, h => h
  | m + 1, o, h => by
    unfold impM
    cases hb : bett polys o with
    | some r => exact impM_whole m (bett_whole h hb).1
    | none => exact h
theorem greE_len (polys : Polys) : (greE polys).length ≤ 60 := by
  by_cases h : chkP polys = 0
  · have := (greE_whole h).1; have := (goodP h).len; omega
  · rw [show greE polys = [] from if_neg h]; simp
theorem impE_len (polys : Polys) (order : List Int) : (impE polys order).length ≤ 60 := by
  by_cases h : validE polys order = 0
  · obtain ⟨hg, hw⟩ := valid_zero h
    rw [show impE polys order = impM polys 1000 order from if_pos h]
    have := (impM_whole 1000 hw).1; have := hg.len; omega
  · rw [show impE polys order = [] from if_neg h]; simp
end Pl
end
section
/- The test of a polygon by computing; the examples are run with it. -/
namespace Pl
open Go Geo Pm
def betB (a b q : IP) : Bool := crI a b q == 0 && (decide (min a.1 b.1 ≤ q.1) && decide (q.1 ≤ max a.1 b.1)) && (decide (min a.2 b.2 ≤ q.2) && decide (q.2 ≤ max a.2 b.2))
theorem betB_iff (a b q : IP) : betB a b q = true ↔ BetI a b q := by unfold betB BetI; simp only [Bool.and_eq_true, beq_iff_eq, decide_eq_true_eq, and_assoc]
def divB (a b p q : IP) : Bool := (decide (crI a b p < 0) && decide (0 < crI a b q)) || (decide (0 < crI a b p) && decide (crI a b q < 0))
theorem divB_iff (a b p q : IP) : divB a b p q = true ↔ DivI a b p q := by unfold divB DivI; simp only [Bool.or_eq_true, Bool.and_eq_true, decide_eq_true_eq]
def meetB (a b c d : IP) : Bool := betB a b c || (betB a b d || (betB c d a || (betB c d b || (divB a b c d && divB c d a b))))
theorem meetB_iff (a b c d : IP) : meetB a b c d = true ↔ MeetI a b c d := by unfold meetB MeetI; simp only [Bool.or_eq_true, Bool.and_eq_true, betB_iff, divB_iff]
def simpB (P : List IP) : Bool := (List.range P.length).all fun i => !(decide (nth P i = nth P (i + 1))) && (!betB (nth P i) (nth P (i + 1)) (nth P (i + 2)) && (!betB (nth P (i + 1)) (nth P (i + 2)) (nth P i) &&
  (List.range P.length).all fun k => !Nat.ble (i + 2) k || ((Nat.beq i 0 && Nat.beq k (P.length - 1)) || !meetB (nth P i) (nth P (i + 1)) (nth P k) (nth P (k + 1)))))
theorem simpB_iff (P : List IP) : simpB P = true ↔ SimpI P := by
  unfold simpB SimpI
  simp only [List.all_eq_true, List.mem_range, Bool.and_eq_true, Bool.not_eq_true', decide_eq_false_iff_not, ← Bool.not_eq_true, betB_iff, Bool.or_eq_true, meetB_iff, Nat.beq_eq, Nat.ble_eq]
  refine forall_congr' fun i => forall_congr' fun hi => ?_
  refine and_congr (by simp) (and_congr Iff.rfl (and_congr Iff.rfl ?_))
  constructor
  · intro h k h1 h2 h3
    rcases h k h2 with h4 | h4 | h4
    · exact absurd h1 h4
    · exact absurd h4 h3
    · exact h4
  · intro h k h2
    by_cases h1 : i + 2 ≤ k
    · by_cases h3 : i = 0 ∧ k = P.length - 1
      · exact Or.inr (Or.inl h3)
      · exact Or.inr (Or.inr (h k h1 h2 h3))
    · exact Or.inl h1
def insB (s : IP) : Bool := (decide (-1048576 ≤ s.1) && decide (s.1 ≤ 1048576)) && (decide (-1048576 ≤ s.2) && decide (s.2 ≤ 1048576))
theorem insB_iff (s : IP) : insB s = true ↔ insI s.1 ∧ insI s.2 := by unfold insB insI; simp only [Bool.and_eq_true, decide_eq_true_eq]
def chkB (P : List IP) : Int := cond (Nat.blt 40 P.length) 5 (cond (Nat.blt P.length 3) 11 (cond (P.all insB) (cond (simpB P) 0 11) 3))
theorem chkB_eq (P : List IP) : chkB P = chk P := by
  unfold chkB chk
  by_cases h1 : 40 < P.length
  · rw [if_pos h1, show Nat.blt 40 P.length = true from of_eq_true (by rw [Nat.blt_eq]; simp [h1])]; rfl
  rw [if_neg h1, show Nat.blt 40 P.length = false from Bool.eq_false_iff.2 (fun h => h1 (Nat.blt_eq ▸ h))]
  by_cases h2 : P.length < 3
  · rw [if_pos h2, show Nat.blt P.length 3 = true from of_eq_true (by rw [Nat.blt_eq]; simp [h2])]; rfl
  rw [if_neg h2, show Nat.blt P.length 3 = false from Bool.eq_false_iff.2 (fun h => h2 (Nat.blt_eq ▸ h))]
  have hin : P.all insB = true ↔ InsI P := by
    unfold InsI
    rw [List.all_eq_true]
    exact forall_congr' fun s => forall_congr' fun _ => insB_iff s
  by_cases h3 : InsI P
  · rw [if_neg (fun h => h h3), hin.2 h3]
    by_cases h4 : SimpI P
    · rw [if_pos h4, (simpB_iff P).2 h4]; rfl
    · rw [if_neg h4, show simpB P = false from Bool.eq_false_iff.2 (fun h => h4 ((simpB_iff P).1 h))]; rfl
  · rw [if_pos h3, show P.all insB = false from Bool.eq_false_iff.2 (fun h => h3 (hin.1 h))]; rfl
/-- calls that are known: the test of a polygon -/
def O11 : CallF := fun f as => cond (Nat.beq f 13 || Nat.beq f 67) (match as with
  | [.val t x] => match castT t (.sl t0) x with
    | some P => some [.val tI (chkB P)]
    | none => none
  | _ => none) none
theorem O11_less : Less O11 (limC G) := by
  intro f as r h
  unfold O11 at h
  cases hb : (Nat.beq f 13 || Nat.beq f 67) with
  | false => rw [hb] at h; cases h
  | true =>
    rw [hb] at h
    simp only [cond_true] at h
    split at h
    · rename_i t x
      split at h
      · rename_i P hc
        obtain ⟨e, hx⟩ := castT_some hc
        subst e
        subst hx
        injection h with h
        subst h
        rw [chkB_eq]
        rw [Bool.or_eq_true] at hb
        rcases hb with hb | hb
        · rw [Nat.eq_of_beq_eq_true hb]; exact check_cg _
        · rw [Nat.eq_of_beq_eq_true hb]; exact rcheck_cg _
      · cases h
    · cases h
theorem run11 {f k : Nat} {as : List D} {r : R} (h : evO G O11 k f as = some r) : CG f as = some r := evO_lim O11_less k f as r h
end Pl
end
section
/- The examples of chapter 41, by running the plain reading. -/
namespace Pl
open Go Geo Pm
theorem alive41_ok : callT CG [.v .bool] 103 [] = some true := callT_of (run11 (k := 1100) (r := [.val .bool true]) (by kernel_rfl)) rfl
end Pl
end
section
/- PathBegins: only the first vertices matter: if a polygon is replaced by another one with the same first vertex, ways and orders stay, for any lists within the bounds. -/
namespace Pl
open Go Geo Pm
/-- lists of polygons that begin alike -/
structure Alike (P Q : Polys) : Prop where
  len : P.length = Q.length
  pt : ∀ k, ptA P k = ptA Q k
  chk : chkP P = chkP Q
theorem Alike.tr {P Q : Polys} (h : Alike P Q) : ∀ (o : List Int) (s : IP), Pl.tr P s o = Pl.tr Q s o
  | [], s => rfl
  | k :: o, s => by simp only [Pl.tr, h.pt k, h.tr o]
theorem Alike.best {P Q : Polys} (h : Alike P Q) (out : List Int) (s : IP) : ∀ i, bestTo P out s i = bestTo Q out s i
  | 0 => rfl
  | i + 1 => by simp only [bestTo, h.best out s i, h.pt]
theorem Alike.gre {P Q : Polys} (h : Alike P Q) : ∀ (m : Nat) (out : List Int) (s : IP), Pl.gre P m out s = Pl.gre Q m out s
  | 0, out, s => rfl
  | m + 1, out, s => by simp only [Pl.gre, h.len, h.best, h.pt, h.gre m]
theorem Alike.gn {P Q : Polys} (h : Alike P Q) (o : List Int) (i k : Nat) : Pl.gn P o i k = Pl.gn Q o i k := by simp only [Pl.gn, h.pt]
theorem Alike.bk {P Q : Polys} (h : Alike P Q) (o : List Int) (i : Nat) : ∀ m k, Pl.bk P o i m k = Pl.bk Q o i m k
  | 0, k => rfl
  | m + 1, k => by simp only [Pl.bk, h.gn, h.bk o i m]
theorem Alike.bi {P Q : Polys} (h : Alike P Q) (o : List Int) : ∀ m i, Pl.bi P o m i = Pl.bi Q o m i
  | 0, i => rfl
  | m + 1, i => by simp only [Pl.bi, h.bk, h.bi o m]
theorem Alike.imp {P Q : Polys} (h : Alike P Q) : ∀ m o, impM P m o = impM Q m o
  | 0, o => rfl
  | m + 1, o => by
    have : bett P o = bett Q o := h.bi o _ _
    simp only [impM, this, h.imp m]
theorem Alike.valid {P Q : Polys} (h : Alike P Q) (o : List Int) : validE P o = validE Q o := by unfold validE; rw [h.chk, h.len]
theorem Alike.trav {P Q : Polys} (h : Alike P Q) (o : List Int) : travE P o = travE Q o := by unfold travE; rw [h.valid, h.tr]
theorem Alike.greE {P Q : Polys} (h : Alike P Q) : Pl.greE P = Pl.greE Q := by unfold Pl.greE; rw [h.chk, h.len, h.gre]
theorem Alike.impE {P Q : Polys} (h : Alike P Q) (o : List Int) : Pl.impE P o = Pl.impE Q o := by unfold Pl.impE; rw [h.valid, h.imp]
theorem chkL_map : ∀ {P Q : Polys}, P.map Geo.chk = Q.map Geo.chk → chkL P = chkL Q
  | [], [], _ => rfl
  | [], q :: Q, h => by cases h
  | p :: P, [], h => by cases h
  | p :: P, q :: Q, h => by
    simp only [List.map_cons, List.cons.injEq] at h
    unfold chkL
    rw [h.1, chkL_map h.2]
theorem unit_ok : Geo.chk [(0, 0), (1, 0), (1, 1), (0, 1)] = 0 := by rw [← chkB_eq]; decide +kernel
theorem box_chk {x y : Int} (hx : insI x) (hy : insI y) (hx2 : x < 1048576) (hy2 : y < 1048576) : Geo.chk [(x, y), (x + 1, y), (x + 1, y + 1), (x, y + 1)] = 0 := by
  have e : [(x, y), (x + 1, y), (x + 1, y + 1), (x, y + 1)] = mvI (x, y) [(0, 0), (1, 0), (1, 1), (0, 1)] := by
    simp [mvI, mvp, Int.add_comm]
  obtain ⟨h1, h2, h3, h4⟩ := chk_ok.1 unit_ok
  rw [e]
  refine chk_ok.2 ⟨by rw [mv_len]; exact h1, by rw [mv_len]; exact h2, ?_, (simp_mv (by simp)).2 h4⟩
  rw [← e]
  unfold insI at *
  intro s hs
  simp only [List.mem_cons, List.not_mem_nil, or_false] at hs
  rcases hs with rfl | rfl | rfl | rfl <;> (unfold insI; simp only; omega)
theorem alike_set {P : Polys} {i : Nat} (hi : i < P.length) {q : List IP} (h1 : Geo.chk (P.getD i []) = 0) (h2 : Geo.chk q = 0) (h3 : (P.getD i []).getD 0 (0, 0) = q.getD 0 (0, 0)) : Alike P (P.set i q) where
  len := by rw [List.length_set]
  pt := fun k => by
    unfold ptA
    by_cases e : i = k.toNat
    · rw [← e, h3]; congr 1; simp [List.getD, hi]
    · congr 1; simp [List.getD, List.getElem?_set, e]
  chk := by
    unfold chkP
    rw [List.length_set]
    split
    · rfl
    · apply chkL_map
      rw [List.map_set, h2, ← h1]
      apply List.ext_getElem
      · simp
      · intro n a b
        rw [List.getElem_set]
        by_cases e : i = n
        · subst e; rw [if_pos rfl, getD_eq hi]; simp
        · rw [if_neg e]
theorem PathBegins_pure (x0 : Polys) (x1 : List Int) (x2 : Int) (w0 : wf (.sl (.sl t0)) x0) (w1 : wf (.sl tI) x1) (w2 : wf (.int .u8) x2) : CG 135 [.val (.sl (.sl t0)) x0, .val (.sl tI) x1, .val (.int .u8) x2] = some [.val .bool true] := by
  have hn : 0 ≤ x2 ∧ x2 ≤ 255 := by
    have h : (Lit.int .u8 x2).wf = true := w2
    simp [Lit.wf, IntKind.min, IntKind.max, IntKind.bits, IntKind.signed] at h
    omega
  obtain ⟨r, hr, h2⟩ := light_ok x0
  refine garmentlaw41_PathBegins_st x0 x1 x2 (bnd hr ?_)
  cases r with
  | false => exact pos rfl (bnd alive41_ok rfl)
  | true =>
    refine neg (by simp) ?_
    by_cases h8 : 8 < x0.length
    · exact pos (dt (by omega)) (bnd alive41_ok rfl)
    refine neg (df (by omega)) ?_
    by_cases h0 : x0.length = 0
    · exact pos (by simp [h0]) (bnd alive41_ok rfl)
    refine neg (by rw [beq_iff_eq]; omega) ?_
    by_cases h3 : 100 < x1.length
    · exact pos (dt (by omega)) (bnd alive41_ok rfl)
    refine neg (df (by omega)) (pos (by omega) ?_)
    obtain ⟨n, rfl⟩ : ∃ n : Nat, x2 = (n : Int) := ⟨x2.toNat, by omega⟩
    have hk := Nat.mod_lt n (show 0 < x0.length by omega)
    rw [wr64 (by omega) (by omega), tmod_nat, Int.toNat_natCast, List.nil_append]
    generalize n % x0.length = i at hk
    refine pos (by omega) ?_
    by_cases he : (x0.getD i []).length = 0
    · exact pos (by rw [beq_iff_eq]; omega) (bnd alive41_ok rfl)
    refine neg (by rw [beq_iff_eq]; omega) (pos (by simp; omega) (pos (by omega) (pos (by omega) (pos (by omega) (bnd (check_ok _) ?_)))))
    by_cases hc : Geo.chk (x0.getD i []) = 0
    · refine neg (nz hc) ?_
      have hin : insP ((x0.getD i []).getD 0 (0, 0)) := (chk_in hc).2.2.1 _ (getD_in (by omega) (0, 0))
      rw [show Int.toNat (0 : Int) = 0 from rfl]
      generalize hs : (x0.getD i []).getD 0 (0, 0) = s at *
      by_cases hx : s.1 ≥ 1048576
      · exact pos (dt hx) (bnd alive41_ok rfl)
      refine neg (df hx) ?_
      by_cases hy : s.2 ≥ 1048576
      · exact pos (dt hy) (bnd alive41_ok rfl)
      refine neg (df hy) ?_
      obtain ⟨i1, i2⟩ := hin
      have hb := box_chk i1 i2 (by omega) (by omega)
      have hbox : callT CG [.o t0] 111 [.val tI (s.1), .val tI (s.2)] = some [(s.1, s.2), (s.1 + 1, s.2), (s.1 + 1, s.2 + 1), (s.1, s.2 + 1)] := by
        refine callT_of (garmentlaw41_box_st s.1 s.2 (r := [.own t0 [(s.1, s.2), (s.1 + 1, s.2), (s.1 + 1, s.2 + 1), (s.1, s.2 + 1)]]) ?_) rfl
        unfold insI at i1 i2
        rw [wr64 (x := s.1 + 1) (by omega) (by omega), wr64 (x := s.2 + 1) (by omega) (by omega)]
      have ha : Alike x0 (x0.set i [(s.1, s.2), (s.1 + 1, s.2), (s.1 + 1, s.2 + 1), (s.1, s.2 + 1)]) := alike_set hk hc hb (by rw [hs]; rfl)
      refine bnd hbox (pos (by omega) (bnd (travel_ok x0 x1) (bnd (travel_ok _ x1) (bnd (greedy_ok x0) (bnd (greedy_ok _) (bnd (improve_ok x0 x1) (bnd (improve_ok _ x1) ?_)))))))
      rw [← ha.trav, ← ha.valid, ← ha.greE, ← ha.chk, ← ha.impE]
      have l1 := greE_len x0
      have l2 := impE_len x0 x1
      exact pos (by simp) (pos (by simp) (pos (by simp) (pos (by simp) (bnd (sameI21_ok (by simp only; omega)) (pos (by simp) (bnd (sameI21_ok (by simp only; omega)) (pos (by simp) (bnd alive41_ok rfl))))))))
    · exact pos (nn0 hc) (bnd alive41_ok rfl)
end Pl
end
