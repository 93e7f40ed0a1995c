/- Parts of the proof of PolygonChecks, joined: K11, Aw11, LPolygonChecks. -/
import Derived.Test.YtccinkbneimmhaaQ4
section
/- The test of a polygon by computing; the examples are run with it. -/
namespace Pl
open Go Geo Pm
def betB (a b q : IP) : Bool := crI a b q == 0 && (decide (min a.1 b.1 ≤ q.1) && decide (q.1 ≤ max a.1 b.1)) && (decide (min a.2 b.2 ≤ q.2) && decide (q.2 ≤ max a.2 b.2))
theorem betB_iff (a b q : IP) : betB a b q = true ↔ BetI a b q := by unfold betB BetI; simp only [Bool.and_eq_true, beq_iff_eq, decide_eq_true_eq, and_assoc]
def divB (a b p q : IP) : Bool := (decide (crI a b p < 0) && decide (0 < crI a b q)) || (decide (0 < crI a b p) && decide (crI a b q < 0))
theorem divB_iff (a b p q : IP) : divB a b p q = true ↔ DivI a b p q := by unfold divB DivI; simp only [Bool.or_eq_true, Bool.and_eq_true, decide_eq_true_eq]
def meetB (a b c d : IP) : Bool := betB a b c || (betB a b d || (betB c d a || (betB c d b || (divB a b c d && divB c d a b))))
theorem meetB_iff (a b c d : IP) : meetB a b c d = true ↔ MeetI a b c d := by unfold meetB MeetI; simp only [Bool.or_eq_true, Bool.and_eq_true, betB_iff, divB_iff]
def simpB (P : List IP) : Bool := (List.range P.length).all fun i => !(decide (nth P i = nth P (i + 1))) && (!betB (nth P i) (nth P (i + 1)) (nth P (i + 2)) && (!betB (nth P (i + 1)) (nth P (i + 2)) (nth P i) &&
  (List.range P.length).all fun k => !Nat.ble (i + 2) k || ((Nat.beq i 0 && Nat.beq k (P.length - 1)) || !meetB (nth P i) (nth P (i + 1)) (nth P k) (nth P (k + 1)))))
theorem simpB_iff (P : List IP) : simpB P = true ↔ SimpI P := by
  unfold simpB SimpI
  simp only [List.all_eq_true, List.mem_range, Bool.and_eq_true, Bool.not_eq_true', decide_eq_false_iff_not, ← Bool.not_eq_true, betB_iff, Bool.or_eq_true, meetB_iff, Nat.beq_eq, Nat.ble_eq]
  refine forall_congr' fun i => forall_congr' fun hi => ?_
  refine and_congr (by simp) (and_congr Iff.rfl (and_congr Iff.rfl ?_))
  constructor
  · intro h k h1 h2 h3
    rcases h k h2 with h4 | h4 | h4
    · exact absurd h1 h4
    · exact absurd h4 h3
    · exact h4
  · intro h k h2
    by_cases h1 : i + 2 ≤ k
    · by_cases h3 : i = 0 ∧ k = P.length - 1
      · exact Or.inr (Or.inl h3)
      · exact Or.inr (Or.inr (h k h1 h2 h3))
    · exact Or.inl h1
def insB (s : IP) : Bool := (decide (-1048576 ≤ s.1) && decide (s.1 ≤ 1048576)) && (decide (-1048576 ≤ s.2) && decide (s.2 ≤ 1048576))
theorem insB_iff (s : IP) : insB s = true ↔ insI s.1 ∧ insI s.2 := by unfold insB insI; simp only [Bool.and_eq_true, decide_eq_true_eq]
def chkB (P : List IP) : Int := cond (Nat.blt 40 P.length) 5 (cond (Nat.blt P.length 3) 11 (cond (P.all insB) (cond (simpB P) 0 11) 3))
theorem chkB_eq (P : List IP) : chkB P = chk P := by
  unfold chkB chk
  by_cases h1 : 40 < P.length
  · rw [if_pos h1, show Nat.blt 40 P.length = true from of_eq_true (by rw [Nat.blt_eq]; simp [h1])]; rfl
  rw [if_neg h1, show Nat.blt 40 P.length = false from Bool.eq_false_iff.2 (fun h => h1 (Nat.blt_eq ▸ h))]
  by_cases h2 : P.length < 3
  · rw [if_pos h2, show Nat.blt P.length 3 = true from of_eq_true (by rw [Nat.blt_eq]; simp [h2])]; rfl
  rw [if_neg h2, show Nat.blt P.length 3 = false from Bool.eq_false_iff.2 (fun h => h2 (Nat.blt_eq ▸ h))]
  have hin : P.all insB = true ↔ InsI P := by
    unfold InsI
    rw [List.all_eq_true]
    exact forall_congr' fun s => forall_congr' fun _ => insB_iff s
  by_cases h3 : InsI P
  · rw [if_neg (fun h => h h3), hin.2 h3]
    by_cases h4 : SimpI P
    · rw [if_pos h4, (simpB_iff P).2 h4]; rfl
    · rw [if_neg h4, show simpB P = false from Bool.eq_false_iff.2 (fun h => h4 ((simpB_iff P).1 h))]; rfl
  · rw [if_pos h3, show P.all insB = false from Bool.eq_false_iff.2 (fun h => h3 (hin.1 h))]; rfl
/-- calls that are known: the test of a polygon -/
def O11 : CallF := fun f as => cond (Nat.beq f 13 || Nat.beq f 67) (match as with
  | [.val t x] => match castT t (.sl t0) x with
    | some P => some [.val tI (chkB P)]
    | none => none
  | _ => none) none
theorem O11_less : Less O11 (limC G) := by
  intro f as r h
  unfold O11 at h
  cases hb : (Nat.beq f 13 || Nat.beq f 67) with
  | false => rw [hb] at h; cases h
  | true =>
    rw [hb] at h
    simp only [cond_true] at h
    split at h
    · rename_i t x
      split at h
      · rename_i P hc
        obtain ⟨e, hx⟩ := castT_some hc
        subst e
        subst hx
        injection h with h
        subst h
        rw [chkB_eq]
        rw [Bool.or_eq_true] at hb
        rcases hb with hb | hb
        · rw [Nat.eq_of_beq_eq_true hb]; exact check_cg _
        · rw [Nat.eq_of_beq_eq_true hb]; exact rcheck_cg _
      · cases h
    · cases h
theorem run11 {f k : Nat} {as : List D} {r : R} (h : evO G O11 k f as = some r) : CG f as = some r := evO_lim O11_less k f as r h
end Pl
end
section
/- The examples of chapter 11, by running the plain reading. -/
namespace Pl
open Go Geo Pm
theorem awake11_ok : callT CG [.v .bool] 82 [] = some true := callT_of (run11 (k := 60) (r := [.val .bool true]) (by kernel_rfl)) rfl
end Pl
end
section
/- PolygonChecks: the program's test, area, box, convexity and moves are those of the reference, for every list and vector. -/
namespace Pl
open Go Geo Pm
theorem few_ok (P : List IP) : callT CG [.v .bool] 81 [.val (.sl t0) P] = some (decide (P.length ≤ 50)) :=
  callT_of (garmentlaw11_few_st P (r := [.val .bool (decide (P.length ≤ 50))]) (by rw [show decide ((P.length : Int) ≤ (50 : Int)) = decide (P.length ≤ 50) from decide_eq_decide.2 (by omega)])) rfl
theorem PolygonChecks_pure (P : List IP) (d : IP) (w0 : wf (.sl t0) P) (w1 : wf t0 d) : CG 100 [.val (.sl t0) P, .val t0 d] = some [.val .bool true] := by
  refine garmentlaw11_PolygonChecks_st P d (bnd (few_ok P) ?_)
  by_cases h : P.length ≤ 50
  · refine neg (by simp [h]) (bnd (box_ok P) (bnd (rbox_ok P) (bnd (convex_ok P) (bnd (rconvex_ok P) (bnd (check_ok P) (bnd (rcheck_ok P) (pos (by simp) (bnd (areaE_ok P) (bnd (rarea_ok P) (pos (by simp) (pos (by simp) (pos (by simp) (pos (by simp) (pos (by simp) (bnd (move_ok d (by omega)) (bnd (rmove_ok d (by omega)) (bnd (same_ok (by simp [mvW]; omega)) (pos (by simp) (bnd awake11_ok rfl)))))))))))))))))))
  · exact pos (by simp [h]) (bnd awake11_ok rfl)
end Pl
end
