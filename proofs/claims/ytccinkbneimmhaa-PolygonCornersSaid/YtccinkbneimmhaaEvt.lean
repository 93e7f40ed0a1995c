/- Rounds: a function with a bound on its rounds answers r from some bound on. -/
namespace Geo
def Evt {α : Type} (g : Nat → Option α) (r : α) : Prop := ∃ K, ∀ k, K ≤ k → g k = some r
section
variable {α β : Type} {g : Nat → Option α} {r : α}
theorem Evt.const {o : Option α} (h : o = some r) : Evt (fun _ => o) r := ⟨0, fun _ _ => h⟩
theorem Evt.ret (r : α) : Evt (fun _ => some r) r := ⟨0, fun _ _ => rfl⟩
theorem Evt.succ (h : Evt (fun k => g (k + 1)) r) : Evt g r := by
  obtain ⟨K, h⟩ := h
  refine ⟨K + 1, fun k hk => ?_⟩
  obtain ⟨m, rfl⟩ : ∃ m, k = m + 1 := ⟨k - 1, by omega⟩
  exact h m (by omega)
theorem Evt.bind {f : Nat → Option β} {h : Nat → β → Option α} {v : β} (hf : Evt f v) (hh : Evt (fun k => h k v) r) : Evt (fun k => (f k).bind (h k)) r := by
  obtain ⟨K, hf⟩ := hf
  obtain ⟨L, hh⟩ := hh
  refine ⟨max K L, fun k hk => ?_⟩
  show (f k).bind (h k) = some r
  rw [hf k (by omega)]
  exact hh k (by omega)
theorem Evt.bindc {o : Option β} {h : Nat → β → Option α} {v : β} (hf : o = some v) (hh : Evt (fun k => h k v) r) : Evt (fun k => o.bind (h k)) r := Evt.bind (Evt.const hf) hh
theorem Evt.pos {c : Prop} {inst : Decidable c} {A B : Nat → Option α} (h : c) (hA : Evt A r) : Evt (fun k => @ite _ c inst (A k) (B k)) r := by
  obtain ⟨K, hA⟩ := hA
  exact ⟨K, fun k hk => by show ite c (A k) (B k) = some r; rw [if_pos h]; exact hA k hk⟩
theorem Evt.neg {c : Prop} {inst : Decidable c} {A B : Nat → Option α} (h : ¬ c) (hB : Evt B r) : Evt (fun k => @ite _ c inst (A k) (B k)) r := by
  obtain ⟨K, hB⟩ := hB
  exact ⟨K, fun k hk => by show ite c (A k) (B k) = some r; rw [if_neg h]; exact hB k hk⟩
theorem Evt.ex (h : Evt g r) : ∃ k, g k = some r := by
  obtain ⟨K, h⟩ := h
  exact ⟨K, h K (Nat.le_refl _)⟩
theorem Evt.cast {s : α} (e : r = s) (h : Evt g r) : Evt g s := e ▸ h
end
end Geo
