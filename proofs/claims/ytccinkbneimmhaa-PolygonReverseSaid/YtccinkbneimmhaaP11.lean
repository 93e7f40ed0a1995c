/- Polygons on the grid: sums along the sides, the position of a point, the area; the opposite order. -/
import Derived.Test.YtccinkbneimmhaaP1
namespace Geo
def sumN (f : Nat → Int) : Nat → Int
  | 0 => 0
  | n + 1 => sumN f n + f n
theorem sumN_congr {f g : Nat → Int} {n : Nat} (h : ∀ i, i < n → f i = g i) : sumN f n = sumN g n := by
  induction n with
  | zero => rfl
  | succ n ih => rw [sumN, sumN, ih (fun i hi => h i (by omega)), h n (by omega)]
theorem sumN_neg (f : Nat → Int) (n : Nat) : sumN (fun i => -f i) n = -sumN f n := by
  induction n with
  | zero => rfl
  | succ n ih => rw [sumN, sumN, ih]; omega
theorem sumN_bound {f : Nat → Int} {B : Int} {n : Nat} (h : ∀ i, i < n → -B ≤ f i ∧ f i ≤ B) : -(n * B) ≤ sumN f n ∧ sumN f n ≤ n * B := by
  induction n with
  | zero => simp [sumN]
  | succ n ih =>
    have a := ih (fun i hi => h i (by omega))
    have b := h n (by omega)
    rw [sumN]
    push_cast
    rw [Int.add_mul]
    omega
theorem sumN_head (f : Nat → Int) (n : Nat) : sumN f (n + 1) = f 0 + sumN (fun i => f (i + 1)) n := by
  induction n with
  | zero => simp [sumN]
  | succ n ih => rw [sumN, ih, sumN]; omega
theorem sumN_rev (f : Nat → Int) (n : Nat) : sumN (fun i => f (n - 1 - i)) n = sumN f n := by
  induction n with
  | zero => rfl
  | succ n ih =>
    rw [sumN_head, sumN]
    have : sumN (fun i => f (n + 1 - 1 - (i + 1))) n = sumN (fun i => f (n - 1 - i)) n := sumN_congr (fun i hi => by congr 1; omega)
    rw [this, ih]
    show f (n + 1 - 1 - 0) + _ = _
    simp only [Nat.add_sub_cancel, Nat.sub_zero]
    omega
theorem sumN_shift {f : Nat → Int} {n : Nat} (h : ∀ i, f (i + n) = f i) (m : Nat) : sumN (fun i => f (i + m)) n = sumN f n := by
  induction m with
  | zero => rfl
  | succ m ih =>
    rw [← ih]
    have e1 := sumN_head (fun i => f (i + m)) n
    rw [sumN] at e1
    have e2 : f (n + m) = f (0 + m) := by rw [Nat.add_comm n m, Nat.zero_add]; exact h m
    have e3 : sumN (fun i => f (i + 1 + m)) n = sumN (fun i => f (i + (m + 1))) n := sumN_congr (fun i _ => by congr 1; omega)
    have e4 : sumN (fun i => (fun i => f (i + m)) (i + 1)) n = sumN (fun i => f (i + 1 + m)) n := rfl
    have e5 : (fun i => f (i + m)) n = f (n + m) := rfl
    have e6 : (fun i => f (i + m)) 0 = f (0 + m) := rfl
    omega
theorem nth_per (P : List IP) (i : Nat) : nth P (i + P.length) = nth P i := by unfold nth; rw [Nat.add_mod_right]
theorem nth_modl (P : List IP) (i : Nat) : nth P (i % P.length) = nth P i := by unfold nth; rw [Nat.mod_mod]
/-- the term of a side in the sum of the area -/
def trap (a b : IP) : Int := (b.1 - a.1) * (a.2 + b.2)
def areaI (P : List IP) : Int := -sumN (fun i => trap (nth P i) (nth P (i + 1))) P.length
/-- how a side turns about a point -/
def wsd (a b q : IP) : Int := if a.2 ≤ q.2 ∧ b.2 > q.2 ∧ crI a b q > 0 then 1 else if a.2 > q.2 ∧ b.2 ≤ q.2 ∧ crI a b q < 0 then -1 else 0
def wndI (P : List IP) (q : IP) : Int := sumN (fun i => wsd (nth P i) (nth P (i + 1)) q) P.length
def OnI (P : List IP) (q : IP) : Prop := ∃ i, i < P.length ∧ BetI (nth P i) (nth P (i + 1)) q
open Classical in
/-- the position of a point of a valid polygon -/
noncomputable def posI (P : List IP) (q : IP) : Int := if insI q.1 ∧ insI q.2 then (if OnI P q then 0 else if wndI P q = 0 then -1 else 1) else -1
noncomputable def areaE (P : List IP) : Int := if chk P = 0 then areaI P else 0
noncomputable def whereI (P : List IP) (q : IP) : Int × Int := if chk P = 0 then (posI P q, 0) else (0, chk P)
theorem cr_flip (a b q : IP) : crI b a q = -crI a b q := by unfold crI; grind
theorem bet_flip {a b q : IP} : BetI b a q ↔ BetI a b q := by
  unfold BetI
  rw [cr_flip]
  omega
theorem div_flip {a b p q : IP} : DivI b a p q ↔ DivI a b p q := by unfold DivI; rw [cr_flip a b p, cr_flip a b q]; omega
theorem div_swap {a b p q : IP} : DivI a b q p ↔ DivI a b p q := by unfold DivI; omega
theorem meet_symm {a b c d : IP} : MeetI c d a b ↔ MeetI a b c d := by
  unfold MeetI
  constructor
  · rintro (h | h | h | h | ⟨h, k⟩)
    · exact .inr (.inr (.inl h))
    · exact .inr (.inr (.inr (.inl h)))
    · exact .inl h
    · exact .inr (.inl h)
    · exact .inr (.inr (.inr (.inr ⟨k, h⟩)))
  · rintro (h | h | h | h | ⟨h, k⟩)
    · exact .inr (.inr (.inl h))
    · exact .inr (.inr (.inr (.inl h)))
    · exact .inl h
    · exact .inr (.inl h)
    · exact .inr (.inr (.inr (.inr ⟨k, h⟩)))
theorem meet_flip {a b c d : IP} : MeetI b a c d ↔ MeetI a b c d := by
  unfold MeetI
  rw [bet_flip (a := a) (b := b), bet_flip (a := a) (b := b), div_flip (a := a) (b := b), div_swap (p := a) (q := b)]
  constructor
  · rintro (h | h | h | h | h)
    · exact .inl h
    · exact .inr (.inl h)
    · exact .inr (.inr (.inr (.inl h)))
    · exact .inr (.inr (.inl h))
    · exact .inr (.inr (.inr (.inr h)))
  · rintro (h | h | h | h | h)
    · exact .inl h
    · exact .inr (.inl h)
    · exact .inr (.inr (.inr (.inl h)))
    · exact .inr (.inr (.inl h))
    · exact .inr (.inr (.inr (.inr h)))
theorem meet_rev {a b c d : IP} : MeetI d c b a ↔ MeetI a b c d := by rw [meet_flip, meet_symm, meet_flip]
theorem trap_flip (a b : IP) : trap b a = -trap a b := by unfold trap; grind
theorem wsd_flip (a b q : IP) : wsd b a q = -wsd a b q := by unfold wsd; rw [cr_flip]; split <;> split <;> (try split) <;> (try split) <;> omega
/-- no two sides that are not neighbours meet, told along the cycle -/
def SimpC (P : List IP) : Prop := ∀ i, nth P i ≠ nth P (i + 1) ∧ ¬ BetI (nth P i) (nth P (i + 1)) (nth P (i + 2)) ∧ ¬ BetI (nth P (i + 1)) (nth P (i + 2)) (nth P i) ∧
  ∀ d, 2 ≤ d → d + 2 ≤ P.length → ¬ MeetI (nth P i) (nth P (i + 1)) (nth P (i + d)) (nth P (i + d + 1))
theorem nth_cast {P : List IP} {i j : Nat} (h : i % P.length = j % P.length) : nth P i = nth P j := by unfold nth; rw [h]
theorem simpC_iff {P : List IP} (h3 : 3 ≤ P.length) : SimpI P ↔ SimpC P := by
  constructor
  · intro h i
    have hn : 0 < P.length := by omega
    have hi := Nat.mod_lt i hn
    obtain ⟨h1, h2, h4, h5⟩ := h (i % P.length) hi
    have e0 : nth P (i % P.length) = nth P i := nth_modl P i
    have e : ∀ c, nth P (i % P.length + c) = nth P (i + c) := fun c => nth_cast (by rw [Nat.mod_add_mod])
    rw [e0, e] at h1
    rw [e0, e, e] at h2
    rw [e0, e, e] at h4
    refine ⟨h1, h2, h4, fun d hd hd2 => ?_⟩
    by_cases hk : i % P.length + d < P.length
    · have := h5 (i % P.length + d) (by omega) hk (by omega)
      rw [e0, e, e, show i % P.length + d + 1 = i % P.length + (d + 1) by omega, e] at this
      exact this
    · have hk' : i % P.length + d - P.length < P.length := by omega
      have := (h (i % P.length + d - P.length) hk').2.2.2 (i % P.length) (by omega) hi (by omega)
      have f : ∀ c, nth P (i % P.length + d - P.length + c) = nth P (i + d + c) := fun c => by
        rw [← nth_per P (i % P.length + d - P.length + c), show i % P.length + d - P.length + c + P.length = i % P.length + (d + c) by omega, e, Nat.add_assoc]
      rw [f 1, show nth P (i % P.length + d - P.length) = nth P (i + d) from f 0, e0, e] at this
      rw [meet_symm] at this
      exact this
  · intro h i hi
    obtain ⟨h1, h2, h4, h5⟩ := h i
    refine ⟨h1, h2, h4, fun k hk hk2 hne => ?_⟩
    have := h5 (k - i) (by omega) (by omega)
    rw [show i + (k - i) = k by omega] at this
    exact this
theorem nth_rev {P : List IP} {m x : Nat} (h : x < P.length * m) : nth P.reverse x = nth P (P.length * m - 1 - x) := by
  have hn : 0 < P.length := Nat.pos_of_ne_zero (fun h0 => by simp [h0] at h)
  unfold nth
  rw [List.length_reverse]
  have hx := Nat.mod_lt x hn
  have e : (P.length * m - 1 - x) % P.length = P.length - 1 - x % P.length := by
    have e1 := Nat.div_add_mod x P.length
    have hq : x / P.length < m := by rw [Nat.div_lt_iff_lt_mul hn]; rw [Nat.mul_comm]; exact h
    obtain ⟨t, ht⟩ : ∃ t, m = x / P.length + 1 + t := ⟨m - (x / P.length + 1), by omega⟩
    have e2 : P.length * m - 1 - x = P.length - 1 - x % P.length + P.length * t := by
      have e3 : P.length * m = P.length * (x / P.length) + P.length + P.length * t := by rw [ht, Nat.mul_add, Nat.mul_add, Nat.mul_one]
      omega
    rw [e2, Nat.add_mul_mod_self_left, Nat.mod_eq_of_lt (by omega)]
  rw [e]
  simp only [List.getD]
  rw [List.getElem?_reverse hx]
theorem simpC_rev {P : List IP} (h : SimpC P) (h0 : 0 < P.length) : SimpC P.reverse := by
  intro i
  have key : ∀ c d, c ≤ d → nth P.reverse (i + c) = nth P (P.length * (i + d + 1) - 1 - (i + c)) := fun c d hc => nth_rev (Nat.lt_of_lt_of_le (show i + c < i + d + 1 by omega) (Nat.le_mul_of_pos_left _ h0))
  have big : ∀ d, i + d + 1 ≤ P.length * (i + d + 1) := fun d => Nat.le_mul_of_pos_left _ h0
  have g2 := big 2
  obtain ⟨k0, k1, k2⟩ := And.intro (key 0 2 (by omega)) (And.intro (key 1 2 (by omega)) (key 2 2 (by omega)))
  generalize hM : P.length * (i + 2 + 1) = M at *
  have a := h (M - 1 - (i + 2))
  rw [show M - 1 - (i + 2) + 1 = M - 1 - (i + 1) by omega, show M - 1 - (i + 2) + 2 = M - 1 - (i + 0) by omega, ← k0, ← k1, ← k2] at a
  have b := h (M - 1 - (i + 1))
  rw [show M - 1 - (i + 1) + 1 = M - 1 - (i + 0) by omega, ← k0, ← k1] at b
  refine ⟨fun e => b.1 e.symm, fun hb => ?_, fun hb => ?_, fun d hd hd2 => ?_⟩
  · exact a.2.2.1 (bet_flip.1 hb)
  · exact a.2.1 (bet_flip.1 hb)
  · rw [List.length_reverse] at hd2
    have gd := big (d + 1)
    obtain ⟨k0, k1, k2, k3⟩ := And.intro (key 0 (d + 1) (by omega)) (And.intro (key 1 (d + 1) (by omega)) (And.intro (key d (d + 1) (by omega)) (key (d + 1) (d + 1) (by omega))))
    generalize hM : P.length * (i + (d + 1) + 1) = M at *
    have c := (h (M - 1 - (i + (d + 1)))).2.2.2 d hd hd2
    rw [show M - 1 - (i + (d + 1)) + 1 = M - 1 - (i + d) by omega, show M - 1 - (i + (d + 1)) + d + 1 = M - 1 - (i + 0) by omega, show M - 1 - (i + (d + 1)) + d = M - 1 - (i + 1) by omega, ← k0, ← k1, ← k2, ← k3] at c
    rw [meet_rev] at c
    exact c
theorem simpI_rev {P : List IP} (h3 : 3 ≤ P.length) : SimpI P.reverse ↔ SimpI P := by
  rw [simpC_iff h3, simpC_iff (by rw [List.length_reverse]; exact h3)]
  constructor
  · intro h
    have := simpC_rev h (by rw [List.length_reverse]; omega)
    rwa [List.reverse_reverse] at this
  · intro h; exact simpC_rev h (by omega)
theorem ins_rev {P : List IP} : InsI P.reverse ↔ InsI P := by unfold InsI; simp
theorem chk_rev (P : List IP) : chk P.reverse = chk P := by
  unfold chk
  rw [List.length_reverse]
  by_cases h1 : 40 < P.length
  · rw [if_pos h1, if_pos h1]
  rw [if_neg h1, if_neg h1]
  by_cases h2 : P.length < 3
  · rw [if_pos h2, if_pos h2]
  rw [if_neg h2, if_neg h2, show (InsI P.reverse) = InsI P from propext ins_rev, show (SimpI P.reverse) = SimpI P from propext (simpI_rev (by omega))]
/-- sums over the sides, in the opposite order -/
theorem sum_rev {P : List IP} (F : IP → IP → Int) : sumN (fun i => F (nth P.reverse i) (nth P.reverse (i + 1))) P.length = sumN (fun i => F (nth P (i + 1)) (nth P i)) P.length := by
  have e : sumN (fun i => F (nth P.reverse i) (nth P.reverse (i + 1))) P.length = sumN (fun i => (fun j => (fun x => F (nth P (x + 1)) (nth P x)) (j + (P.length - 1))) (P.length - 1 - i)) P.length := by
    refine sumN_congr (fun i hi => ?_)
    have a := nth_rev (P := P) (m := 2) (x := i) (by omega)
    have b := nth_rev (P := P) (m := 2) (x := i + 1) (by omega)
    rw [a, b]
    show F _ _ = F (nth P (P.length - 1 - i + (P.length - 1) + 1)) (nth P (P.length - 1 - i + (P.length - 1)))
    rw [show P.length * 2 - 1 - i = P.length - 1 - i + (P.length - 1) + 1 by omega, show P.length * 2 - 1 - (i + 1) = P.length - 1 - i + (P.length - 1) by omega]
  rw [e, sumN_rev (fun j => (fun x => F (nth P (x + 1)) (nth P x)) (j + (P.length - 1)))]
  exact sumN_shift (f := fun x => F (nth P (x + 1)) (nth P x)) (fun i => by
    show F (nth P (i + P.length + 1)) (nth P (i + P.length)) = _
    rw [show i + P.length + 1 = i + 1 + P.length by omega, nth_per, nth_per]) _
theorem area_rev (P : List IP) : areaI P.reverse = -areaI P := by
  unfold areaI
  rw [List.length_reverse, sum_rev trap]
  have : sumN (fun i => trap (nth P (i + 1)) (nth P i)) P.length = -sumN (fun i => trap (nth P i) (nth P (i + 1))) P.length := by
    rw [← sumN_neg]
    exact sumN_congr (fun i _ => trap_flip _ _)
  rw [this]
theorem wnd_rev (P : List IP) (q : IP) : wndI P.reverse q = -wndI P q := by
  unfold wndI
  rw [List.length_reverse, sum_rev (fun a b => wsd a b q), ← sumN_neg]
  exact sumN_congr (fun i _ => wsd_flip _ _ _)
theorem on_rev {P : List IP} {q : IP} : OnI P.reverse q ↔ OnI P q := by
  have key : ∀ {P : List IP}, OnI P q → OnI P.reverse q := by
    intro P ⟨i, hi, h⟩
    have a := nth_rev (P := P.reverse) (m := 2) (x := i) (by rw [List.length_reverse]; omega)
    have b := nth_rev (P := P.reverse) (m := 2) (x := i + 1) (by rw [List.length_reverse]; omega)
    rw [List.reverse_reverse, List.length_reverse] at a b
    rw [a, b] at h
    refine ⟨(P.length * 2 - 1 - (i + 1)) % P.length, by rw [List.length_reverse]; exact Nat.mod_lt _ (by omega), ?_⟩
    rw [← nth_modl P.reverse ((P.length * 2 - 1 - (i + 1)) % P.length + 1), List.length_reverse, Nat.mod_add_mod, show P.length * 2 - 1 - (i + 1) + 1 = P.length * 2 - 1 - i by omega]
    have e1 := nth_modl P.reverse (P.length * 2 - 1 - (i + 1))
    have e2 := nth_modl P.reverse (P.length * 2 - 1 - i)
    rw [List.length_reverse] at e1 e2
    rw [e1, e2]
    exact bet_flip.1 h
  constructor
  · intro h; have := key h; rwa [List.reverse_reverse] at this
  · exact key
theorem pos_rev (P : List IP) (q : IP) : posI P.reverse q = posI P q := by
  unfold posI
  rw [show (OnI P.reverse q) = OnI P q from propext on_rev, wnd_rev]
  by_cases h : wndI P q = 0
  · rw [if_pos (show -wndI P q = 0 by omega), if_pos h]
  · rw [if_neg (show ¬ -wndI P q = 0 by omega), if_neg h]
theorem where_rev (P : List IP) (q : IP) : whereI P.reverse q = whereI P q := by unfold whereI; rw [chk_rev, pos_rev]
theorem areaE_rev (P : List IP) : areaE P.reverse = -areaE P := by unfold areaE; rw [chk_rev, area_rev]; split <;> omega
end Geo
