/- The program's polygon package, as printed, answers what P1 says. -/
import Derived.Test.YtccinkbneimmhaaPPolygonCornersx0
import Derived.Test.YtccinkbneimmhaaPPolygonCornersx1
import Derived.Test.YtccinkbneimmhaaPPolygonCornersx2
import Derived.Test.YtccinkbneimmhaaPPolygonCornersx3
import Derived.Test.YtccinkbneimmhaaPPolygonCornersx4
import Derived.Test.YtccinkbneimmhaaPPolygonCornersx5
import Derived.Test.YtccinkbneimmhaaPPolygonCornersx6
import Derived.Test.YtccinkbneimmhaaPPolygonCornersx7
import Derived.Test.YtccinkbneimmhaaPPolygonCornersx8
import Derived.Test.YtccinkbneimmhaaPPolygonCornersx9
import Derived.Test.YtccinkbneimmhaaPPolygonCornersx10
import Derived.Test.YtccinkbneimmhaaPPolygonCornersx11
import Derived.Test.YtccinkbneimmhaaPPolygonCornersx12
import Derived.Test.YtccinkbneimmhaaPPolygonCornersx13
import Derived.Test.YtccinkbneimmhaaPPolygonCornersx14
import Derived.Test.YtccinkbneimmhaaEvt
import Derived.Test.YtccinkbneimmhaaP1
namespace Go.Proofs.Ytccinkbneimmhaa.PPolygonCorners
open Go.RowKit Go.Proofs.YtccinkbneimmhaaW.PrintWords Go.Proofs.YtccinkbneimmhaaW.PrintLast Geo
noncomputable def tb (p : Prop) : Bool := @decide p (Classical.propDecidable p)
theorem tb_true {p : Prop} (h : p) : tb p = true := by unfold tb; simp [h]
theorem tb_false {p : Prop} (h : ¬ p) : tb p = false := by unfold tb; simp [h]
theorem tb_congr {p q : Prop} (h : p ↔ q) : tb p = tb q := by rw [propext h]
theorem tb_dec {p : Prop} {inst : Decidable p} : @decide p inst = tb p := by
  by_cases h : p
  · rw [tb_true h]; simp [h]
  · rw [tb_false h]; simp [h]
def pt (s : S30) : IP := (s.f0, s.f1)
def pts (l : List S30) : List IP := l.map pt
theorem pts_len (l : List S30) : (pts l).length = l.length := by simp [pts]
theorem pt_rd (l : List S30) (i : Int) : pt (rd_T30 l i) = (pts l).getD i.toNat (0, 0) := by
  unfold rd_T30 pts
  simp only [List.getD, List.getElem?_map]
  cases l[i.toNat]? <;> rfl
theorem rd_f0 (l : List S30) (i : Int) : (rd_T30 l i).f0 = ((pts l).getD i.toNat (0, 0)).1 := by rw [← pt_rd]; rfl
theorem rd_f1 (l : List S30) (i : Int) : (rd_T30 l i).f1 = ((pts l).getD i.toNat (0, 0)).2 := by rw [← pt_rd]; rfl
theorem wr {x : Int} (h : -9223372036854775808 ≤ x) (h2 : x ≤ 9223372036854775807) : wrap64 x = x := by unfold wrap64; omega
theorem wr1 {i : Nat} (h : i < 4611686018427387904) : wrap64 ((i : Int) + 1) = ((i + 1 : Nat) : Int) := by unfold wrap64; omega
theorem wr2 {i : Nat} (h : i < 4611686018427387904) : wrap64 ((i : Int) + 2) = ((i + 2 : Nat) : Int) := by unfold wrap64; omega
theorem tmod_nat (a b : Nat) : Int.tmod (a : Int) (b : Int) = ((a % b : Nat) : Int) := by rw [Int.ofNat_tmod]
theorem nth_lt {P : List IP} {i : Nat} (h : i < P.length) : P.getD i (0, 0) = nth P i := by unfold nth; rw [Nat.mod_eq_of_lt h]
theorem nth_mod (P : List IP) (i : Nat) : P.getD (i % P.length) (0, 0) = nth P i := rfl
theorem getD_at {P : List IP} {i : Nat} (h : i < P.length) : P.getD i (0, 0) = P[i] := by simp [List.getD, h]
theorem nth_mem {P : List IP} (h : P ≠ []) (i : Nat) : nth P i ∈ P := by
  have hl : 0 < P.length := List.length_pos_iff.2 h
  unfold nth
  rw [getD_at (Nat.mod_lt _ hl)]
  exact List.getElem_mem _
theorem inside_eq (a : Int) : polygon_inside.f a = some (decide (insI a)) := by
  unfold polygon_inside.f insI
  by_cases h : a ≥ -1048576
  · rw [if_pos h]; congr 1; apply decide_eq_decide.2; omega
  · rw [if_neg h]; congr 1; symm; apply decide_eq_false; omega
theorem turn_eq {a0 a1 b0 b1 c0 c1 : Int} (ha0 : insI a0) (ha1 : insI a1) (hb0 : insI b0) (hb1 : insI b1) (hc0 : insI c0) (hc1 : insI c1) :
    polygon_turn.f a0 a1 b0 b1 c0 c1 = some (crI (a0, a1) (b0, b1) (c0, c1)) := by
  unfold insI at *
  unfold polygon_turn.f crI
  rw [wr (x := b0 - a0) (by omega) (by omega), wr (x := c1 - b1) (by omega) (by omega), wr (x := b1 - a1) (by omega) (by omega), wr (x := c0 - b0) (by omega) (by omega)]
  have p := Geo.prod_bound (x := b0 - a0) (y := c1 - b1) (M := 2097152) (by omega) (by omega) (by omega) (by omega)
  have q := Geo.prod_bound (x := b1 - a1) (y := c0 - b0) (M := 2097152) (by omega) (by omega) (by omega) (by omega)
  have e : (b0 - a0) * (c1 - a1) - (b1 - a1) * (c0 - a0) = (b0 - a0) * (c1 - b1) - (b1 - a1) * (c0 - b0) := by grind
  simp only [e]
  generalize (b0 - a0) * (c1 - b1) = u at *
  generalize (b1 - a1) * (c0 - b0) = v at *
  rw [wr (x := u) (by omega) (by omega), wr (x := v) (by omega) (by omega), wr (x := u - v) (by omega) (by omega)]
theorem within_eq (n a b : Int) : polygon_within.f n a b = some (tb (min a b ≤ n ∧ n ≤ max a b)) := by
  unfold polygon_within.f
  by_cases h : mn a b ≤ n
  · rw [if_pos h]; rw [tb_dec]; congr 1; apply tb_congr; unfold mn mx at *; split at h <;> split <;> omega
  · rw [if_neg h]; rw [tb_false]; unfold mn at h; split at h <;> omega
theorem holds_eq {a0 a1 b0 b1 c0 c1 : Int} (ha0 : insI a0) (ha1 : insI a1) (hb0 : insI b0) (hb1 : insI b1) (hc0 : insI c0) (hc1 : insI c1) :
    polygon_side_holds.f a0 a1 b0 b1 c0 c1 = some (tb (BetI (a0, a1) (b0, b1) (c0, c1))) := by
  unfold polygon_side_holds.f
  rw [turn_eq ha0 ha1 hb0 hb1 hc0 hc1]
  simp only [Option.bind_some, within_eq]
  unfold BetI
  by_cases h1 : crI (a0, a1) (b0, b1) (c0, c1) = 0
  · rw [if_pos h1]
    by_cases h2 : min a0 b0 ≤ c0 ∧ c0 ≤ max a0 b0
    · rw [tb_true h2, if_pos rfl]; congr 1; apply tb_congr; simp [h1, h2]
    · rw [tb_false h2, if_neg (by simp), tb_false]; simp only; exact fun h => h2 h.2.1
  · rw [if_neg h1, tb_false]; exact fun h => h1 h.1
theorem divides_eq {a0 a1 b0 b1 c0 c1 d0 d1 : Int} (ha0 : insI a0) (ha1 : insI a1) (hb0 : insI b0) (hb1 : insI b1) (hc0 : insI c0) (hc1 : insI c1) (hd0 : insI d0) (hd1 : insI d1) :
    polygon_side_divides.f a0 a1 b0 b1 c0 c1 d0 d1 = some (tb (DivI (a0, a1) (b0, b1) (c0, c1) (d0, d1))) := by
  unfold polygon_side_divides.f
  rw [turn_eq ha0 ha1 hb0 hb1 hc0 hc1, turn_eq ha0 ha1 hb0 hb1 hd0 hd1]
  simp only [Option.bind_some]
  unfold DivI
  generalize crI (a0, a1) (b0, b1) (c0, c1) = u
  generalize crI (a0, a1) (b0, b1) (d0, d1) = v
  by_cases h1 : u < 0
  · rw [if_pos h1]
    by_cases h2 : v > 0
    · rw [if_pos h2, tb_true]; exact Or.inl ⟨h1, h2⟩
    · rw [if_neg h2, if_neg (by omega), tb_false]; omega
  · rw [if_neg h1]
    by_cases h2 : u > 0
    · rw [if_pos h2, tb_dec]; congr 1; apply tb_congr; omega
    · rw [if_neg h2, tb_false]; omega
theorem meets_eq {a0 a1 b0 b1 c0 c1 d0 d1 : Int} (ha0 : insI a0) (ha1 : insI a1) (hb0 : insI b0) (hb1 : insI b1) (hc0 : insI c0) (hc1 : insI c1) (hd0 : insI d0) (hd1 : insI d1) :
    polygon_side_meets.f a0 a1 b0 b1 c0 c1 d0 d1 = some (tb (MeetI (a0, a1) (b0, b1) (c0, c1) (d0, d1))) := by
  unfold polygon_side_meets.f
  rw [holds_eq ha0 ha1 hb0 hb1 hc0 hc1, holds_eq ha0 ha1 hb0 hb1 hd0 hd1, holds_eq hc0 hc1 hd0 hd1 ha0 ha1, holds_eq hc0 hc1 hd0 hd1 hb0 hb1,
    divides_eq ha0 ha1 hb0 hb1 hc0 hc1 hd0 hd1, divides_eq hc0 hc1 hd0 hd1 ha0 ha1 hb0 hb1]
  simp only [Option.bind_some]
  unfold MeetI
  by_cases h1 : BetI (a0, a1) (b0, b1) (c0, c1)
  · rw [tb_true h1, if_pos rfl, tb_true]; exact Or.inl h1
  rw [tb_false h1, if_neg (by simp)]
  by_cases h2 : BetI (a0, a1) (b0, b1) (d0, d1)
  · rw [tb_true h2, if_pos rfl, tb_true]; exact Or.inr (Or.inl h2)
  rw [tb_false h2, if_neg (by simp)]
  by_cases h3 : BetI (c0, c1) (d0, d1) (a0, a1)
  · rw [tb_true h3, if_pos rfl, tb_true]; exact Or.inr (Or.inr (Or.inl h3))
  rw [tb_false h3, if_neg (by simp)]
  by_cases h4 : BetI (c0, c1) (d0, d1) (b0, b1)
  · rw [tb_true h4, if_pos rfl, tb_true]; exact Or.inr (Or.inr (Or.inr (Or.inl h4)))
  rw [tb_false h4, if_neg (by simp)]
  by_cases h5 : DivI (a0, a1) (b0, b1) (c0, c1) (d0, d1)
  · rw [tb_true h5, if_pos rfl]; congr 1; apply tb_congr; simp [h1, h2, h3, h4, h5]
  · rw [tb_false h5, if_neg (by simp), tb_false]; simp [h1, h2, h3, h4, h5]
/-! sides -/
def sideAt (l : List S30) (i : Nat) : S57 := ⟨⟨(rd_T30 l i).f0, (rd_T30 l i).f1⟩, ⟨(rd_T30 l ((i + 1) % l.length : Nat)).f0, (rd_T30 l ((i + 1) % l.length : Nat)).f1⟩⟩
def sidesL (l : List S30) : List S57 := (List.range l.length).map (sideAt l)
theorem sidesL_len (l : List S30) : (sidesL l).length = l.length := by simp [sidesL]
theorem rd_side (l : List S30) {i : Nat} (h : i < l.length) : rd_T57 (sidesL l) (i : Int) = sideAt l i := by
  unfold rd_T57 sidesL
  simp [List.getD, h]
theorem sides_loop (l : List S30) (hl : l.length ≤ 4000000) (d : Nat) : ∀ i : Nat, i + d = l.length →
    Evt (fun k => polygon_sides.l0 k l ((sidesL l).take i ++ List.replicate d z57) l (l.length : Int) (i : Int)) (sidesL l) := by
  induction d with
  | zero =>
    intro i hi
    refine Evt.succ ?_
    simp only [polygon_sides.l0]
    refine Evt.neg (by omega) ?_
    refine Evt.cast ?_ (Evt.ret _)
    simp only [List.replicate_zero, List.append_nil]
    rw [List.take_of_length_le (by rw [sidesL_len]; omega)]
  | succ d ih =>
    intro i hi
    have hn : 0 < l.length := by omega
    have hm : (i + 1) % l.length < l.length := Nat.mod_lt _ hn
    refine Evt.succ ?_
    simp only [polygon_sides.l0]
    rw [wr1 (by omega)]
    simp only [tmod_nat]
    refine Evt.pos (by omega) (Evt.pos (by omega) (Evt.pos (by omega) (Evt.neg (by omega) (Evt.pos (by omega) (Evt.pos (by omega) (Evt.pos ?_ ?_))))))
    · rw [List.length_append, List.length_take, sidesL_len, List.length_replicate]; omega
    · have := ih (i + 1) (by omega)
      refine Eq.mp ?_ this
      congr 1
      funext k
      congr 1
      have h1 : ((sidesL l).take i).length = i := by rw [List.length_take, sidesL_len]; omega
      rw [Int.toNat_natCast, List.set_append_right _ _ (by omega), h1, Nat.sub_self, List.replicate_succ, List.set_cons_zero]
      rw [List.take_succ_eq_append_getElem (by rw [sidesL_len]; omega)]
      simp only [List.append_assoc, List.cons_append, List.nil_append]
      congr 2
      simp [sidesL, sideAt]
theorem sides_ev (l : List S30) (hl : l.length ≤ 4000000) : Evt (fun k => polygon_sides.f k l) (sidesL l) := by
  unfold polygon_sides.f
  refine Evt.pos (by omega) (Evt.pos (by omega) ?_)
  have := sides_loop l hl l.length 0 (by omega)
  simpa using this
theorem side_nth {l : List S30} (_hl : l ≠ []) {i : Nat} (hi : i < l.length) :
    pt (sideAt l i).f0 = nth (pts l) i ∧ pt (sideAt l i).f1 = nth (pts l) (i + 1) := by
  constructor
  · show pt (rd_T30 l i) = _
    rw [pt_rd, Int.toNat_natCast, nth_lt (by rw [pts_len]; exact hi)]
  · show pt (rd_T30 l ((i + 1) % l.length : Nat)) = _
    rw [pt_rd, Int.toNat_natCast, ← pts_len l, nth_mod]
theorem ins_nth {P : List IP} (h : InsI P) (hP : P ≠ []) (i : Nat) : insI (nth P i).1 ∧ insI (nth P i).2 := h _ (nth_mem hP i)
theorem fst_of {s : S30} {p : IP} (h : pt s = p) : s.f0 = p.1 := by rw [← h]; rfl
theorem snd_of {s : S30} {p : IP} (h : pt s = p) : s.f1 = p.2 := by rw [← h]; rfl
def condI (P : List IP) (i k : Nat) : Prop := ¬ (i = 0 ∧ k = P.length - 1) → ¬ MeetI (nth P i) (nth P (i + 1)) (nth P k) (nth P (k + 1))
def rowI (P : List IP) (i : Nat) : Prop := nth P i ≠ nth P (i + 1) ∧ ¬ BetI (nth P i) (nth P (i + 1)) (nth P (i + 2)) ∧ ¬ BetI (nth P (i + 1)) (nth P (i + 2)) (nth P i) ∧
  ∀ k, i + 2 ≤ k → k < P.length → condI P i k
theorem nth_next (P : List IP) (i : Nat) : nth P ((i + 1) % P.length + 1) = nth P (i + 2) := by
  unfold nth
  rw [Nat.mod_add_mod]
theorem simple_inner (l : List S30) (hl : l.length ≤ 40) (h3 : 3 ≤ l.length) (hi : InsI (pts l)) (i : Nat) (hin : i < l.length) (R : Prop)
    (next : Evt (fun k => polygon_simple.l0 k (sidesL l) (sidesL l) (l.length : Int) ((i + 1 : Nat) : Int)) (tb R)) (d : Nat) : ∀ j : Nat, j + d = l.length ∨ (l.length < j ∧ d = 0) →
    Evt (fun k => polygon_simple.l1 k (sidesL l) (i : Int) (j : Int) (sidesL l) (l.length : Int) (i : Int) (nth (pts l) i).1 (nth (pts l) i).2 (nth (pts l) (i + 1)).1 (nth (pts l) (i + 1)).2)
      (tb ((∀ k, j ≤ k → k < l.length → condI (pts l) i k) ∧ R)) := by
  have hne : l ≠ [] := by rintro rfl; simp at h3
  have hpe : pts l ≠ [] := by intro h; have := pts_len l; rw [h] at this; simp at this; omega
  induction d with
  | zero =>
    intro j hj
    refine Evt.succ ?_
    simp only [polygon_simple.l1, sidesL_len]
    refine Evt.neg (by omega) ?_
    rw [wr1 (by omega)]
    refine Evt.cast ?_ next
    apply tb_congr
    constructor
    · intro h; exact ⟨fun k h1 h2 => by omega, h⟩
    · exact fun h => h.2
  | succ d ih =>
    intro j hj
    have hjl : j < l.length := by omega
    refine Evt.succ ?_
    simp only [polygon_simple.l1, sidesL_len]
    refine Evt.pos (by omega) ?_
    have hs := side_nth hne hjl
    -- what the test of the pair answers
    have main : ∀ b : Bool, (b = true ↔ (i = 0 ∧ j = l.length - 1)) → Evt (fun k => polygon_simple.j3 k (sidesL l) (i : Int) (j : Int) (sidesL l) (l.length : Int) (i : Int) b (nth (pts l) i).1 (nth (pts l) i).2 (nth (pts l) (i + 1)).1 (nth (pts l) (i + 1)).2)
        (tb ((∀ k, j ≤ k → k < l.length → condI (pts l) i k) ∧ R)) := by
      intro b hb
      refine Evt.succ ?_
      simp only [polygon_simple.j3, sidesL_len]
      have hrest := ih (j + 1) (by omega)
      have split : ((∀ k, j ≤ k → k < l.length → condI (pts l) i k) ∧ R) ↔ condI (pts l) i j ∧ ((∀ k, j + 1 ≤ k → k < l.length → condI (pts l) i k) ∧ R) := by
        constructor
        · rintro ⟨h1, h2⟩; exact ⟨h1 j (Nat.le_refl _) hjl, fun k a b => h1 k (by omega) b, h2⟩
        · rintro ⟨h0, h1, h2⟩
          refine ⟨fun k a b => ?_, h2⟩
          by_cases e : k = j
          · subst e; exact h0
          · exact h1 k (by omega) b
      cases b with
      | true =>
        refine Evt.pos rfl ?_
        rw [wr1 (by omega)]
        refine Evt.cast ?_ hrest
        apply tb_congr
        rw [split]
        have : condI (pts l) i j := fun h => absurd (by rw [pts_len]; exact hb.1 rfl) h
        simp [this]
      | false =>
        refine Evt.neg (by simp) (Evt.pos (by omega) (Evt.pos (by omega) ?_))
        rw [rd_side l hjl, fst_of hs.1, snd_of hs.1, fst_of hs.2, snd_of hs.2]
        refine Evt.bindc (meets_eq (ins_nth hi hpe i).1 (ins_nth hi hpe i).2 (ins_nth hi hpe (i+1)).1 (ins_nth hi hpe (i+1)).2 (ins_nth hi hpe j).1 (ins_nth hi hpe j).2 (ins_nth hi hpe (j+1)).1 (ins_nth hi hpe (j+1)).2) ?_
        by_cases hm : MeetI (nth (pts l) i) (nth (pts l) (i + 1)) (nth (pts l) j) (nth (pts l) (j + 1))
        · rw [tb_true hm]
          refine Evt.pos rfl (Evt.cast ?_ (Evt.ret _))
          rw [tb_false]
          rw [split]
          rintro ⟨h0, _⟩
          exact h0 (fun h => by rw [pts_len] at h; have := hb.2 h; simp at this) hm
        · rw [tb_false hm]
          refine Evt.neg (by simp) ?_
          rw [wr1 (by omega)]
          refine Evt.cast ?_ hrest
          apply tb_congr
          rw [split]
          have : condI (pts l) i j := fun _ => hm
          simp [this]
    by_cases h0 : i = 0
    · subst h0
      refine Evt.pos rfl ?_
      refine main _ ?_
      rw [wr (by omega) (by omega)]
      simp
      omega
    · refine Evt.neg (by omega) ?_
      exact main false (by simp [h0])
theorem simple_loop (l : List S30) (hl : l.length ≤ 40) (h3 : 3 ≤ l.length) (hi : InsI (pts l)) (d : Nat) : ∀ i : Nat, i + d = l.length →
    Evt (fun k => polygon_simple.l0 k (sidesL l) (sidesL l) (l.length : Int) (i : Int)) (tb (∀ j, i ≤ j → j < l.length → rowI (pts l) j)) := by
  have hne : l ≠ [] := by rintro rfl; simp at h3
  have hpe : pts l ≠ [] := by intro h; have := pts_len l; rw [h] at this; simp at this; omega
  induction d with
  | zero =>
    intro i hi'
    refine Evt.succ ?_
    simp only [polygon_simple.l0]
    refine Evt.neg (by omega) (Evt.cast ?_ (Evt.ret _))
    rw [tb_true]
    intro j h1 h2
    omega
  | succ d ih =>
    intro i hi'
    have hil : i < l.length := by omega
    have hm : (i + 1) % l.length < l.length := Nat.mod_lt _ (by omega)
    have next := ih (i + 1) (by omega)
    have inner := simple_inner l hl h3 hi i hil _ next (l.length - (i + 2)) (i + 2) (by omega)
    have s0 := side_nth hne hil
    have s1 := side_nth hne hm
    have split : (∀ j, i ≤ j → j < l.length → rowI (pts l) j) ↔ rowI (pts l) i ∧ ∀ j, i + 1 ≤ j → j < l.length → rowI (pts l) j := by
      constructor
      · intro h; exact ⟨h i (Nat.le_refl _) hil, fun j a b => h j (by omega) b⟩
      · rintro ⟨h0, h1⟩ j a b
        by_cases e : j = i
        · subst e; exact h0
        · exact h1 j (by omega) b
    have e1 : nth (pts l) ((i + 1) % l.length) = nth (pts l) (i + 1) := by
      unfold nth; rw [pts_len, Nat.mod_mod]
    have e2 : nth (pts l) ((i + 1) % l.length + 1) = nth (pts l) (i + 2) := by
      rw [← pts_len l]; exact nth_next _ _
    rw [e1, e2] at s1
    refine Evt.succ ?_
    simp only [polygon_simple.l0, sidesL_len]
    rw [wr1 (by omega)]
    simp only [tmod_nat]
    rw [rd_side l hil, rd_side l hm, fst_of s0.1, snd_of s0.1, fst_of s0.2, snd_of s0.2, fst_of s1.1, snd_of s1.1, fst_of s1.2, snd_of s1.2]
    refine Evt.pos (by omega) (Evt.pos (by omega) (Evt.pos (by omega) ?_))
    have n0 := ins_nth hi hpe i
    have n1 := ins_nth hi hpe (i + 1)
    have n2 := ins_nth hi hpe (i + 2)
    by_cases h1 : nth (pts l) i = nth (pts l) (i + 1)
    · refine Evt.pos (by rw [h1]; simp) (Evt.cast ?_ (Evt.ret _))
      rw [tb_false]
      rw [split]
      exact fun h => h.1.1 h1
    refine Evt.neg ?_ ?_
    · intro h
      simp only [Bool.and_eq_true, beq_iff_eq] at h
      exact h1 (Prod.ext h.1 h.2)
    refine Evt.neg (by omega) (Evt.pos (by omega) (Evt.pos (by omega) ?_))
    refine Evt.bindc (holds_eq n0.1 n0.2 n1.1 n1.2 n2.1 n2.2) ?_
    by_cases h2 : BetI (nth (pts l) i) (nth (pts l) (i + 1)) (nth (pts l) (i + 2))
    · rw [tb_true h2]
      refine Evt.pos rfl (Evt.succ ?_)
      simp only [polygon_simple.j1]
      refine Evt.pos trivial (Evt.cast ?_ (Evt.ret _))
      rw [tb_false]
      rw [split]
      exact fun h => h.1.2.1 h2
    rw [tb_false h2]
    refine Evt.neg (by simp) ?_
    refine Evt.bindc (holds_eq n1.1 n1.2 n2.1 n2.2 n0.1 n0.2) ?_
    refine Evt.succ ?_
    simp only [polygon_simple.j1]
    by_cases h3' : BetI (nth (pts l) (i + 1)) (nth (pts l) (i + 2)) (nth (pts l) i)
    · rw [tb_true h3']
      refine Evt.pos rfl (Evt.cast ?_ (Evt.ret _))
      rw [tb_false]
      rw [split]
      exact fun h => h.1.2.2.1 h3'
    rw [tb_false h3']
    refine Evt.neg (by simp) ?_
    rw [wr2 (by omega)]
    refine Evt.cast ?_ inner
    apply tb_congr
    rw [split]
    unfold rowI
    rw [pts_len]
    constructor
    · rintro ⟨a, b⟩; exact ⟨⟨h1, h2, h3', a⟩, b⟩
    · rintro ⟨⟨_, _, _, a⟩, b⟩; exact ⟨a, b⟩
theorem simple_ev (l : List S30) (hl : l.length ≤ 40) (h3 : 3 ≤ l.length) (hi : InsI (pts l)) : Evt (fun k => polygon_simple.f k l) (tb (SimpI (pts l))) := by
  unfold polygon_simple.f
  refine Evt.bind (sides_ev l (by omega)) ?_
  rw [sidesL_len]
  refine Evt.cast ?_ (simple_loop l hl h3 hi l.length 0 (by omega))
  apply tb_congr
  unfold SimpI
  rw [pts_len]
  constructor
  · intro h i hi; have := h i (by omega) hi; unfold rowI condI at this; rw [pts_len] at this; exact this
  · intro h j _ hj; have := h j hj; unfold rowI condI; rw [pts_len]; exact this
theorem check_loop (l : List S30) (hl : l.length ≤ 40) (h3 : 3 ≤ l.length) (d : Nat) : ∀ i : Nat, i + d = l.length → (∀ j, j < i → ∀ s, (pts l)[j]? = some s → insI s.1 ∧ insI s.2) →
    Evt (fun k => polygon_Check.l0 k l l (l.length : Int) (i : Int)) (chk (pts l)) := by
  induction d with
  | zero =>
    intro i hi hpre
    have hins : InsI (pts l) := by
      intro s hs
      obtain ⟨j, hj, e⟩ := List.mem_iff_getElem.1 hs
      rw [pts_len] at hj
      exact hpre j (by omega) s (by rw [List.getElem?_eq_getElem (by rw [pts_len]; omega), e])
    refine Evt.succ ?_
    simp only [polygon_Check.l0]
    refine Evt.neg (by omega) ?_
    refine Evt.bind (simple_ev l hl h3 hins) ?_
    by_cases hs : SimpI (pts l)
    · have hc : chk (pts l) = 0 := chk_ok.2 ⟨by rw [pts_len]; omega, by rw [pts_len]; omega, hins, hs⟩
      rw [tb_true hs, hc]; exact Evt.pos rfl (Evt.ret _)
    · have hc : chk (pts l) = 11 := by
        unfold chk
        rw [pts_len, if_neg (by omega), if_neg (by omega), if_neg (by simpa using hins), if_neg hs]
      rw [tb_false hs, hc]; exact Evt.neg (by simp) (Evt.ret _)
  | succ d ih =>
    intro i hi hpre
    have hil : i < l.length := by omega
    refine Evt.succ ?_
    simp only [polygon_Check.l0]
    refine Evt.pos (by omega) (Evt.pos (by omega) (Evt.pos (by omega) ?_))
    rw [rd_f0, rd_f1, Int.toNat_natCast]
    have hmem : (pts l)[i]? = some ((pts l).getD i (0, 0)) := by
      rw [List.getElem?_eq_getElem (by rw [pts_len]; exact hil), getD_at (by rw [pts_len]; exact hil)]
    generalize (pts l).getD i (0, 0) = s at *
    have bad : ¬ (insI s.1 ∧ insI s.2) → chk (pts l) = 3 := by
      intro h
      unfold chk
      rw [pts_len, if_neg (by omega), if_neg (by omega), if_pos]
      intro hins
      exact h (hins s (List.mem_of_getElem? hmem))
    refine Evt.bindc (inside_eq _) ?_
    by_cases h1 : insI s.1
    · rw [decide_eq_true h1]
      refine Evt.pos rfl ?_
      refine Evt.bindc (inside_eq _) ?_
      by_cases h2 : insI s.2
      · rw [decide_eq_true h2]
        refine Evt.pos rfl ?_
        rw [wr1 (by omega)]
        refine ih (i + 1) (by omega) ?_
        intro j hj s' hs'
        by_cases e : j = i
        · subst e; rw [hmem] at hs'; cases hs'; exact ⟨h1, h2⟩
        · exact hpre j (by omega) s' hs'
      · rw [decide_eq_false h2]
        exact Evt.neg (by simp) (Evt.cast (bad (fun h => h2 h.2)).symm (Evt.ret _))
    · rw [decide_eq_false h1]
      exact Evt.neg (by simp) (Evt.cast (bad (fun h => h1 h.1)).symm (Evt.ret _))
theorem check_ev (l : List S30) : Evt (fun k => polygon_Check.f k l) (chk (pts l)) := by
  unfold polygon_Check.f
  by_cases h1 : (l.length : Int) > 40
  · refine Evt.pos h1 (Evt.cast ?_ (Evt.ret _))
    unfold chk; rw [pts_len, if_pos (by omega)]
  refine Evt.neg h1 ?_
  by_cases h2 : (l.length : Int) < 3
  · refine Evt.pos h2 (Evt.cast ?_ (Evt.ret _))
    unfold chk; rw [pts_len, if_neg (by omega), if_pos (by omega)]
  refine Evt.neg h2 ?_
  exact check_loop l (by omega) (by omega) l.length 0 (by omega) (fun j hj => by omega)
--BOX
/-! the box -/
noncomputable def boxI (P : List IP) : Int × Int × Int × Int × Int :=
  if chk P = 0 then (minX P, minY P, maxX P - minX P, maxY P - minY P, 0) else (0, 0, 0, 0, chk P)
theorem mn_min (a b : Int) : mn a b = min a b := by unfold mn; split <;> omega
theorem mx_max (a b : Int) : mx a b = max a b := by unfold mx; split <;> omega
theorem drop_cons (P : List IP) {i : Nat} (h : i < P.length) : P.drop i = P.getD i (0, 0) :: P.drop (i + 1) := by
  rw [List.drop_eq_getElem_cons h, getD_at h]
theorem box_loop (l : List S30) (hl : l.length ≤ 40) (d : Nat) : ∀ (i : Nat) (a b c e : Int), i + d = l.length →
    Evt (fun k => polygon_Box.l0 k l (l.length : Int) (i : Int) a b c e)
      (((pts l).drop i).foldl (fun m s => min m s.1) a, ((pts l).drop i).foldl (fun m s => min m s.2) b,
        wrap64 (((pts l).drop i).foldl (fun m s => max m s.1) c - ((pts l).drop i).foldl (fun m s => min m s.1) a),
        wrap64 (((pts l).drop i).foldl (fun m s => max m s.2) e - ((pts l).drop i).foldl (fun m s => min m s.2) b), 0) := by
  induction d with
  | zero =>
    intro i a b c e hi
    refine Evt.succ ?_
    simp only [polygon_Box.l0]
    refine Evt.neg (by omega) (Evt.cast ?_ (Evt.ret _))
    rw [List.drop_of_length_le (by rw [pts_len]; omega)]
    rfl
  | succ d ih =>
    intro i a b c e hi
    refine Evt.succ ?_
    simp only [polygon_Box.l0]
    refine Evt.pos (by omega) (Evt.pos (by omega) (Evt.pos (by omega) ?_))
    rw [wr1 (by omega), rd_f0, rd_f1, Int.toNat_natCast, drop_cons _ (show i < (pts l).length by rw [pts_len]; omega)]
    have := ih (i + 1) (min a ((pts l).getD i (0, 0)).1) (min b ((pts l).getD i (0, 0)).2) (max c ((pts l).getD i (0, 0)).1) (max e ((pts l).getD i (0, 0)).2) (by omega)
    simp only [List.foldl_cons]
    simp only [mn_min, mx_max]
    exact this
theorem box_ev (l : List S30) : Evt (fun k => polygon_Box.f k l) (boxI (pts l)) := by
  unfold polygon_Box.f boxI
  refine Evt.bind (check_ev l) ?_
  by_cases h : chk (pts l) = 0
  · rw [if_pos h]
    obtain ⟨h1, h2, h3, _⟩ := chk_ok.1 h
    rw [pts_len] at h1 h2
    have hpe : pts l ≠ [] := by intro h; have := pts_len l; rw [h] at this; simp at this; omega
    refine Evt.pos h (Evt.pos (by omega) ?_)
    have := box_loop l h1 l.length 0 (rd_T30 l 0).f0 (rd_T30 l 0).f1 (rd_T30 l 0).f0 (rd_T30 l 0).f1 (by omega)
    refine Evt.cast ?_ this
    have e : (pts l).headD (0, 0) = (pts l).getD 0 (0, 0) := by cases pts l <;> rfl
    have x1 := minX_spec hpe
    have x2 := maxX_spec hpe
    have y1 := minY_spec hpe
    have y2 := maxY_spec hpe
    obtain ⟨s1, m1, e1⟩ := x1.2
    obtain ⟨s2, m2, e2⟩ := x2.2
    obtain ⟨s3, m3, e3⟩ := y1.2
    obtain ⟨s4, m4, e4⟩ := y2.2
    have b1 := (h3 s1 m1).1
    have b2 := (h3 s2 m2).1
    have b3 := (h3 s3 m3).2
    have b4 := (h3 s4 m4).2
    unfold insI at b1 b2 b3 b4
    rw [rd_f0, rd_f1, Int.toNat_zero, List.drop_zero, ← e]
    show (minX (pts l), minY (pts l), wrap64 (maxX (pts l) - minX (pts l)), wrap64 (maxY (pts l) - minY (pts l)), (0 : Int)) = _
    rw [wr (by omega) (by omega), wr (by omega) (by omega)]
  · rw [if_neg h]
    exact Evt.neg h (Evt.ret _)
--ENDBOX
end Go.Proofs.Ytccinkbneimmhaa.PPolygonCorners
