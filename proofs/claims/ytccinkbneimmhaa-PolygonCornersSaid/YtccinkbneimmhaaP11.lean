/- Polygons on the grid: sums along the sides, the position of a point, the area; the opposite order. -/
import Derived.Test.YtccinkbneimmhaaP1
namespace Geo
def sumN (f : Nat → Int) : Nat → Int
  | 0 => 0
  | n + 1 => sumN f n + f n
theorem sumN_congr {f g : Nat → Int} {n : Nat} (h : ∀ i, i < n → f i = g i) : sumN f n = sumN g n := by
  induction n with
  | zero => rfl
  | succ n ih => rw [sumN, sumN, ih (fun i hi => h i (by omega)), h n (by omega)]
theorem sumN_bound {f : Nat → Int} {B : Int} {n : Nat} (h : ∀ i, i < n → -B ≤ f i ∧ f i ≤ B) : -(n * B) ≤ sumN f n ∧ sumN f n ≤ n * B := by
  induction n with
  | zero => simp [sumN]
  | succ n ih =>
    have a := ih (fun i hi => h i (by omega))
    have b := h n (by omega)
    rw [sumN]
    push_cast
    rw [Int.add_mul]
    omega
theorem nth_per (P : List IP) (i : Nat) : nth P (i + P.length) = nth P i := by unfold nth; rw [Nat.add_mod_right]
/-- how a side turns about a point -/
def wsd (a b q : IP) : Int := if a.2 ≤ q.2 ∧ b.2 > q.2 ∧ crI a b q > 0 then 1 else if a.2 > q.2 ∧ b.2 ≤ q.2 ∧ crI a b q < 0 then -1 else 0
def wndI (P : List IP) (q : IP) : Int := sumN (fun i => wsd (nth P i) (nth P (i + 1)) q) P.length
def OnI (P : List IP) (q : IP) : Prop := ∃ i, i < P.length ∧ BetI (nth P i) (nth P (i + 1)) q
open Classical in
/-- the position of a point of a valid polygon -/
noncomputable def posI (P : List IP) (q : IP) : Int := if insI q.1 ∧ insI q.2 then (if OnI P q then 0 else if wndI P q = 0 then -1 else 1) else -1
noncomputable def whereI (P : List IP) (q : IP) : Int × Int := if chk P = 0 then (posI P q, 0) else (0, chk P)
end Geo
