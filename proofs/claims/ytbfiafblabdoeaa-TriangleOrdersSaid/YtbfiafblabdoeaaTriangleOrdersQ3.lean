/- Parts of the proof of TriangleOrders, joined: G9, G10, G11, G12, G13, R11b, C11d, G14, G15, G16, G17, N11, K11, C13a, G18, N11b, T13, Aw13, LTriangleOrders. -/
import Derived.Test.YtbfiafblabdoeaaTriangleOrdersQ2
set_option linter.unusedVariables false
set_option linter.unusedSimpArgs false
section
/- Every simple polygon has good ears, and an orientation. -/
namespace Geo
theorem seen_of {m : Pt} {L : List Pt} (h : Simp (m :: L)) (hm : ∀ w ∈ L, lex m w) : ∃ a b, Seen m L a b := by
  have hl := h.len
  have hn := h.nodup
  obtain ⟨b, M, hb⟩ : ∃ b M, L = b :: M := by
    cases L with
    | nil => simp at hl
    | cons b M => exact ⟨b, M, rfl⟩
  obtain ⟨N, a, ha⟩ : ∃ N a, L = N ++ [a] := by
    rcases List.eq_nil_or_concat L with rfl | ⟨N, a, e⟩
    · simp at hl
    · exact ⟨N, a, by rw [e]; simp⟩
  refine ⟨a, b, h, ⟨M, hb⟩, ⟨N, ha⟩, ?_⟩
  intro h0
  have hce := ces_cons (v := m) hb ha
  have ha' : a ∈ L := by rw [ha]; simp
  have hb' : b ∈ L := by rw [hb]; simp
  have nab : a ≠ b := by
    rintro rfl
    rw [List.nodup_cons] at hn
    cases N with
    | nil => rw [ha] at hl; simp at hl
    | cons c N =>
      rw [ha] at hb hn
      simp only [List.cons_append, List.cons.injEq] at hb
      obtain ⟨rfl, _⟩ := hb
      simp at hn
  have nam : a ≠ m := by rintro rfl; rw [List.nodup_cons] at hn; exact hn.1 ha'
  have nbm : b ≠ m := by rintro rfl; rw [List.nodup_cons] at hn; exact hn.1 hb'
  rcases On_ray (hm a ha') (hm b hb') h0 with o | o
  · rcases h.vert ((hce (a, m)).2 (Or.inr (Or.inr rfl))) (List.mem_cons_of_mem _ hb') (On_symm o) with r | r
    · exact nab r.symm
    · exact nbm r
  · rcases h.vert ((hce (m, b)).2 (Or.inl rfl)) (List.mem_cons_of_mem _ ha') o with r | r
    · exact nam r
    · exact nab r
theorem least_rot {P : List Pt} (h : Simp P) : ∃ m L a b, Rot P (m :: L) ∧ Seen m L a b ∧ ∀ w ∈ L, lex m w := by
  obtain ⟨m, hm, hm2⟩ := exists_least P (by have := h.len; rintro rfl; simp at this)
  obtain ⟨A, B, rfl⟩ := List.append_of_mem hm
  have hr : Rot (A ++ m :: B) (m :: (B ++ A)) := ⟨A, m :: B, rfl, rfl⟩
  have hs := hr.simp h
  have hl : ∀ w ∈ B ++ A, lex m w := by
    intro w hw
    apply hm2
    · exact (hr.mem w).2 (List.mem_cons_of_mem _ hw)
    · rintro rfl
      have := hs.nodup
      rw [List.nodup_cons] at this
      exact this.1 hw
  obtain ⟨a, b, s⟩ := seen_of hs hl
  exact ⟨m, B ++ A, a, b, hr, s, hl⟩
theorem Rot.seen_rev {m a b : Pt} {L : List Pt} (s : Seen m L a b) : Seen m L.reverse b a := by
  obtain ⟨M, hb⟩ := s.head
  obtain ⟨N, ha⟩ := s.last
  refine ⟨?_, ⟨N.reverse, by rw [ha]; simp⟩, ⟨M.reverse, by rw [hb]; simp⟩, ?_⟩
  · have h1 := s.simp.rev
    rw [List.reverse_cons] at h1
    exact h1.rot
  · have := s.turn
    have e : cr b m a = - cr a m b := by unfold cr; grind
    rw [e]; grind
theorem Diag_rot {P Q : List Pt} (h : Rot P Q) {m z : Pt} (d : Diag P m z) : Diag Q m z :=
  fun e he => d e ((h.ces e).2 he)
theorem Diag_rev {P : List Pt} {m z : Pt} (d : Diag P m z) : Diag P.reverse m z := by
  intro e he x hx hy
  have := d _ ((ces_rev P e).1 he) x (On_symm hx) hy
  exact ⟨this.1.symm, this.2⟩
/-- the ear theorem: apart from any side there is a good ear -/
theorem ears : ∀ (n : Nat) (P : List Pt), P.length = n → Simp P → ∀ x y, (x, y) ∈ ces P →
    ∃ v L a b, Good P v L a b ∧ v ≠ x ∧ v ≠ y := by
  intro n
  induction n using Nat.strongRecOn with
  | ind n ih =>
    intro P hn hP x y hxy
    obtain ⟨m, L, a, b, hr, s, hm⟩ := least_rot hP
    have hlen := hr.length
    simp only [List.length_cons] at hlen
    have hl3 := hP.len
    by_cases h3 : n = 3
    · -- a triangle
      obtain ⟨R, hR⟩ := ces_cut (by omega) hxy
      have hRl := hR.length
      simp only [List.length_cons] at hRl
      obtain ⟨v, rfl⟩ : ∃ v, R = [v] := by
        match R, hRl with
        | [v], _ => exact ⟨v, rfl⟩
        | [], h => simp at h; omega
        | _ :: _ :: _, h => simp at h; omega
      have hR2 : Rot P (v :: [x, y]) := Rot_trans hR ⟨[x, y], [v], rfl, rfl⟩
      have hnd := hR2.nodup hP.nodup
      have tn : cr y v x ≠ 0 := by
        intro h0
        -- the triangle at its least vertex
        have hperm : cr a m b = cr y v x ∨ cr a m b = - cr y v x := by
          have hLl : L.length = 2 := by omega
          obtain ⟨M, hb⟩ := s.head
          obtain ⟨N, ha⟩ := s.last
          obtain ⟨c, rfl⟩ : ∃ c, M = [c] := by
            rw [hb] at hLl
            match M, hLl with
            | [c], _ => exact ⟨c, rfl⟩
            | [], h => simp at h
            | _ :: _ :: _, h => simp at h
          have hac : c = a := by
            rw [hb] at ha
            have e : [b] ++ [c] = N ++ [a] := by rw [← ha]; rfl
            have := (List.append_inj' e rfl).2
            simpa using this
          subst hac hb
          obtain ⟨A, B, e1, e2⟩ := Rot_trans hr.symm hR2
          match A, e1 with
          | [], e1 =>
            simp only [List.nil_append, List.append_nil] at e1 e2
            rw [← e1] at e2
            simp only [List.cons.injEq, and_true] at e2
            obtain ⟨rfl, rfl, rfl⟩ := e2
            exact Or.inl rfl
          | [A1], e1 =>
            simp only [List.cons_append, List.nil_append, List.cons.injEq] at e1
            obtain ⟨rfl, rfl⟩ := e1
            simp only [List.cons_append, List.nil_append, List.cons.injEq, and_true] at e2
            obtain ⟨rfl, rfl, rfl⟩ := e2
            left; unfold cr; grind
          | [A1, A2], e1 =>
            simp only [List.cons_append, List.nil_append, List.cons.injEq] at e1
            obtain ⟨rfl, rfl, rfl⟩ := e1
            simp only [List.cons_append, List.nil_append, List.cons.injEq, and_true] at e2
            obtain ⟨rfl, rfl, rfl⟩ := e2
            left; unfold cr; grind
          | [A1, A2, A3], e1 =>
            simp only [List.cons_append, List.nil_append, List.cons.injEq] at e1
            obtain ⟨rfl, rfl, rfl, rfl⟩ := e1
            simp only [List.nil_append, List.cons.injEq, and_true] at e2
            obtain ⟨rfl, rfl, rfl⟩ := e2
            left; rfl
          | A1 :: A2 :: A3 :: A4 :: A5, e1 => simp at e1
        have := s.turn
        grind
      refine ⟨v, [x, y], y, x, ⟨hR2, ⟨hR2.simp hP, ⟨[y], rfl⟩, ⟨[x], rfl⟩, tn⟩, ?_, ?_⟩, ?_, ?_⟩
      · intro w hw h1 h2
        simp only [List.mem_cons, List.not_mem_nil, or_false] at hw
        rcases hw with rfl | rfl
        · exact absurd rfl h2
        · exact absurd rfl h1
      · show cc x y v + (cc y x v + 0) = 0
        rw [cc_anti x y]; omega
      · rintro rfl; simp at hnd
      · rintro rfl; simp at hnd
    · have hl4 : 3 ≤ L.length := by omega
      obtain ⟨M, hb⟩ := s.head
      obtain ⟨N, ha⟩ := s.last
      have hce := ces_cons (v := m) hb ha
      have hnd := s.simp.nodup
      have hnd2 := hnd
      rw [List.nodup_cons] at hnd2
      by_cases em : Empty m L a b
      · by_cases hmx : m ≠ x ∧ m ≠ y
        · exact ⟨m, L, a, b, ⟨hr, s, em, cw_lex L hm⟩, hmx.1, hmx.2⟩
        · have hxy' := (hce _).1 ((hr.ces _).1 hxy)
          have hxs : (x = m ∨ x = a) ∧ (y = m ∨ y = b) := by
            rcases hxy' with h | h | h
            · simp only [Prod.mk.injEq] at h; exact ⟨Or.inl h.1, Or.inr h.2⟩
            · have := es_mem h
              exfalso
              apply hmx
              constructor
              · rintro rfl; exact hnd2.1 this.1
              · rintro rfl; exact hnd2.1 this.2
            · simp only [Prod.mk.injEq] at h; exact ⟨Or.inr h.1, Or.inl h.2⟩
          obtain ⟨v, K, a', b', g, va, vb⟩ := ih L.length (by omega) L rfl (s.cut em hl4) a b ((ces_L hb ha _).2 (Or.inr rfl))
          obtain ⟨X, Y, e1, e2⟩ := g.rot
          have hvL : v ∈ L := (g.rot.mem v).2 (by simp)
          have hvm : v ≠ m := by rintro rfl; exact hnd2.1 hvL
          -- L = X ++ Y with Y = v :: Y'' ++ [a], X = b :: X'
          obtain ⟨X', hX⟩ : ∃ X', X = b :: X' := by
            cases X with
            | nil =>
              simp only [List.nil_append, List.append_nil] at e1 e2
              rw [← e1, hb] at e2
              simp only [List.cons.injEq] at e2
              exact absurd e2.1 vb
            | cons c X =>
              rw [hb] at e1
              simp only [List.cons_append, List.cons.injEq] at e1
              exact ⟨X, by rw [e1.1]⟩
          obtain ⟨Y', hY⟩ : ∃ Y', Y = Y' ++ [a] := by
            rcases List.eq_nil_or_concat Y with rfl | ⟨Y', c, rfl⟩
            · simp only [List.nil_append, List.append_nil] at e1 e2
              rw [← e1, hb] at e2
              simp only [List.cons.injEq] at e2
              exact absurd e2.1 vb
            · have e : (X ++ Y') ++ [c] = N ++ [a] := by rw [← ha, e1]; simp
              have := (List.append_inj' e rfl).2
              simp only [List.cons.injEq, and_true] at this
              exact ⟨Y', by rw [this]; simp⟩
          obtain ⟨Y'', hY'⟩ : ∃ Y'', Y' = v :: Y'' := by
            cases Y' with
            | nil =>
              rw [hY] at e2
              simp only [List.nil_append, List.cons_append, List.cons.injEq] at e2
              exact absurd e2.1 va
            | cons c Y' =>
              rw [hY] at e2
              simp only [List.cons_append, List.cons.injEq] at e2
              exact ⟨Y', by rw [e2.1]⟩
          subst hX hY hY'
          simp only [List.cons_append, List.append_assoc, List.cons.injEq, true_and, List.nil_append] at e2
          subst e2
          have hrot : Rot P (v :: (Y'' ++ a :: m :: b :: X')) := by
            apply Rot_trans hr
            rw [e1]
            exact ⟨m :: b :: X', v :: Y'' ++ [a], by simp, by simp⟩
          have hsimp := hrot.simp hP
          have haL : a ∈ L := by rw [ha]; simp
          have hbL : b ∈ L := by rw [hb]; simp
          obtain ⟨M', hM'⟩ := g.seen.head
          obtain ⟨N', hN'⟩ := g.seen.last
          have hb'L : b' ∈ L := (g.rot.mem b').2 (by rw [hM']; simp)
          have ha'L : a' ∈ L := (g.rot.mem a').2 (by rw [hN']; simp)
          refine ⟨v, Y'' ++ a :: m :: b :: X', a', b', ⟨hrot, ⟨hsimp, ?_, ?_, g.seen.turn⟩, ?_, ?_⟩, ?_, ?_⟩
          · cases Y'' with
            | nil => simp only [List.nil_append, List.cons.injEq] at hM'; exact ⟨_, by rw [← hM'.1]; rfl⟩
            | cons c Y => simp only [List.cons_append, List.cons.injEq] at hM'; exact ⟨_, by rw [← hM'.1]; rfl⟩
          · rcases List.eq_nil_or_concat X' with rfl | ⟨X'', c, rfl⟩
            · have e : (Y'' ++ [a]) ++ [b] = N' ++ [a'] := by rw [← hN']; simp
              have := (List.append_inj' e rfl).2
              simp only [List.cons.injEq, and_true] at this
              exact ⟨Y'' ++ [a, m], by rw [this]; simp⟩
            · have e : (Y'' ++ a :: b :: X'') ++ [c] = N' ++ [a'] := by rw [← hN']; simp
              have := (List.append_inj' e rfl).2
              simp only [List.cons.injEq, and_true] at this
              exact ⟨Y'' ++ a :: m :: b :: X'', by rw [this]; simp⟩
          · intro w hw h1 h2
            by_cases hwm : w = m
            · subst hwm
              exact notInT_lex g.seen.turn (hm _ ha'L) (hm _ hvL) (hm _ hb'L)
            · apply g.empty w _ h1 h2
              simp only [List.mem_append, List.mem_cons] at hw ⊢
              grind
          · have t1 : cw (Y'' ++ a :: m :: b :: X') v = cw (a :: m :: b :: (X' ++ Y'')) v := by rw [cw_rot]; simp
            have t2 : cw (Y'' ++ a :: b :: X') v = cw (a :: b :: (X' ++ Y'')) v := by rw [cw_rot]; simp
            have t3 := cw_chord a b [m] (X' ++ Y'') v
            have t4 := triOut s.turn (em v hvL va vb)
            have t5 := g.out
            simp only [List.cons_append, List.nil_append] at t3
            omega
          · rcases hxs.1 with rfl | rfl
            · exact hvm
            · exact va
          · rcases hxs.2 with rfl | rfl
            · exact hvm
            · exact vb
      · obtain ⟨z, hz, za, zb, d, z1, z2, z3⟩ := s.see em
        obtain ⟨C, E, hCE⟩ := List.append_of_mem hz
        subst hCE
        have hC : C ≠ [] := by
          rintro rfl
          simp only [List.nil_append, List.cons.injEq] at hb
          exact zb hb.1
        have hE : E ≠ [] := by
          rintro rfl
          have e : C ++ [z] = N ++ [a] := ha
          have := (List.append_inj' e rfl).2
          simp only [List.cons.injEq, and_true] at this
          exact za this
        have c2 := s.chain hC hE d hm z1 z3
        have c1 : ∀ w ∈ C, cw (m :: z :: E) w = 0 := by
          have s' := Rot.seen_rev s
          have e : (C ++ z :: E).reverse = E.reverse ++ z :: C.reverse := by simp
          rw [e] at s'
          have d' : Diag (m :: (E.reverse ++ z :: C.reverse)) m z := by
            have := Diag_rev d
            rw [List.reverse_cons, e] at this
            exact Diag_rot ⟨_, [m], rfl, rfl⟩ this
          have := s'.chain (by simpa using hE) (by simpa using hC) d' (by
            intro w hw; apply hm
            rw [← e] at hw
            exact List.mem_reverse.1 hw) (by rw [bc_flip]; exact z3) (by rw [bc_flip]; exact z1)
          intro w hw
          have h1 := this w (by simpa using hw)
          have h2 : cw (m :: (E.reverse ++ [z])) w = cw ((m :: z :: E).reverse) w := by
            rw [show m :: (E.reverse ++ [z]) = [m] ++ (E.reverse ++ [z]) from rfl, cw_rot]
            simp
          rw [h2, cw_rev] at h1
          omega
        have hsz : C.length + E.length + 2 = n := by
          simp only [List.length_append, List.length_cons] at hlen; omega
        have hC1 : 1 ≤ C.length := List.length_pos_iff.2 hC
        have hE1 : 1 ≤ E.length := List.length_pos_iff.2 hE
        have cs := @ces_sub m z C E
        have s1 : Simp (m :: z :: E) := by
          refine s.simp.sub d (by simp; omega) ?_ ?_
          · have : (m :: z :: E).Sublist (m :: (C ++ z :: E)) := List.Sublist.cons_cons _ (List.sublist_append_right _ _)
            exact this.nodup hnd
          · intro e he
            have : ces (m :: z :: E) = (m, z) :: es (z :: (E ++ [m])) := rfl
            rw [this] at he
            rcases List.mem_cons.1 he with h | h
            · exact Or.inr h
            · exact Or.inl (cs.2.1 e h)
        have s2 : Simp (m :: (C ++ [z])) := by
          refine s.simp.sub d.symm (by simp; omega) ?_ ?_
          · have : (m :: (C ++ [z])).Sublist (m :: (C ++ z :: E)) := by
              apply List.Sublist.cons_cons
              apply List.Sublist.append_left
              simp
            exact this.nodup hnd
          · intro e he
            rcases (ces_path m z C e).1 he with h | h
            · exact Or.inl (cs.1 e h)
            · exact Or.inr h
        have dP := Diag_rot hr.symm d
        rcases cs.2.2 _ ((hr.ces _).1 hxy) with h | h
        · obtain ⟨v, K, a', b', g, vm, vz⟩ := ih (m :: z :: E).length (by simp; omega) _ rfl s1 m z (by simp [ces])
          obtain ⟨hv, K', g'⟩ := lift hP hr dP c1 c2 g vm vz
          have hd : v ∉ m :: (C ++ [z]) := by
            intro hv2
            have e : m :: (C ++ z :: E) = (m :: (C ++ [z])) ++ E := by simp
            rw [e, List.nodup_append] at hnd
            exact hnd.2.2 v hv2 v hv rfl
          have := es_mem h
          exact ⟨v, K', a', b', g', by rintro rfl; exact hd this.1, by rintro rfl; exact hd this.2⟩
        · have hzm : (z, m) ∈ ces (z :: m :: C) := by simp [ces]
          have s2' : Simp (z :: m :: C) := by
            have : Simp ([z] ++ (m :: C)) := Simp.rot (A := m :: C) (B := [z]) (by simpa using s2)
            exact this
          obtain ⟨v, K, a', b', g, vz, vm⟩ := ih (z :: m :: C).length (by simp; omega) _ rfl s2' z m hzm
          have hr' : Rot P (z :: (E ++ m :: C)) := Rot_trans hr ⟨m :: C, z :: E, by simp, by simp⟩
          have c1' : ∀ w ∈ E, cw (z :: m :: C) w = 0 := by
            intro w hw
            rw [← c2 w hw, show z :: m :: C = [z] ++ (m :: C) from rfl, cw_rot]; rfl
          have c2' : ∀ w ∈ C, cw (z :: (E ++ [m])) w = 0 := by
            intro w hw
            rw [← c1 w hw, show z :: (E ++ [m]) = (z :: E) ++ [m] from rfl, cw_rot]; rfl
          obtain ⟨hv, K', g'⟩ := lift hP hr' dP.symm c1' c2' g vz vm
          have hd : v ∉ z :: (E ++ [m]) := by
            intro hv2
            have e : (m :: (C ++ z :: E)).Perm (C ++ z :: (E ++ [m])) := by
              have : m :: (C ++ z :: E) = [m] ++ (C ++ z :: E) := rfl
              rw [this]
              have : C ++ z :: (E ++ [m]) = (C ++ z :: E) ++ [m] := by simp
              rw [this]
              exact List.perm_append_comm
            rw [e.nodup_iff, List.nodup_append] at hnd
            exact hnd.2.2 v hv v hv2 rfl
          have := es_mem h
          exact ⟨v, K', a', b', g', by rintro rfl; exact hd this.1, by rintro rfl; exact hd this.2⟩
end Geo
end
section
/- A point off a polygon has room in every direction. A simple polygon winds about each point off it 0 times or s times, s being 1 or -1. -/
namespace Geo
theorem sep {u v x : Pt} (h : ¬ On u v x) : ∃ p q r : Rat, p * x.1 + q * x.2 + r < 0 ∧ ∀ y, On u v y → 0 ≤ p * y.1 + q * y.2 + r := by
  by_cases hc : cr u v x = 0
  · by_cases huv : u = v
    · subst huv
      have key : ∀ y, On u u y → y = u := by
        rintro y ⟨t, _, _, e⟩
        rw [e]; apply Prod.ext <;> simp only <;> grind
      by_cases h1 : x.1 < u.1
      · exact ⟨1, 0, -u.1, by grind, fun y hy => by rw [key y hy]; grind⟩
      by_cases h2 : u.1 < x.1
      · exact ⟨-1, 0, u.1, by grind, fun y hy => by rw [key y hy]; grind⟩
      by_cases h3 : x.2 < u.2
      · exact ⟨0, 1, -u.2, by grind, fun y hy => by rw [key y hy]; grind⟩
      by_cases h4 : u.2 < x.2
      · exact ⟨0, -1, u.2, by grind, fun y hy => by rw [key y hy]; grind⟩
      exact absurd ((Prod.ext (by grind) (by grind) : x = u) ▸ On_left u u) h
    · have hN : 0 < (v.1 - u.1) * (v.1 - u.1) + (v.2 - u.2) * (v.2 - u.2) := by
        by_cases a1 : v.1 - u.1 = 0
        · have a2 : v.2 - u.2 ≠ 0 := fun a2 => huv (Prod.ext (by grind) (by grind))
          rw [a1]
          rcases (by grind : v.2 - u.2 < 0 ∨ 0 < v.2 - u.2) with g | g
          · have := Rat.mul_pos (show 0 < -(v.2 - u.2) by grind) (show 0 < -(v.2 - u.2) by grind); grind
          · have := Rat.mul_pos g g; grind
        · have q2 : 0 ≤ (v.2 - u.2) * (v.2 - u.2) := by
            by_cases g : 0 ≤ v.2 - u.2
            · exact Rat.mul_nonneg g g
            · have := Rat.mul_nonneg (show 0 ≤ -(v.2 - u.2) by grind) (show 0 ≤ -(v.2 - u.2) by grind); grind
          rcases (by grind : v.1 - u.1 < 0 ∨ 0 < v.1 - u.1) with g | g
          · have := Rat.mul_pos (show 0 < -(v.1 - u.1) by grind) (show 0 < -(v.1 - u.1) by grind); grind
          · have := Rat.mul_pos g g; grind
      have fy : ∀ y, On u v y → ∃ t : Rat, 0 ≤ t ∧ t ≤ 1 ∧ (y.1 - u.1) * (v.1 - u.1) + (y.2 - u.2) * (v.2 - u.2) = t * ((v.1 - u.1) * (v.1 - u.1) + (v.2 - u.2) * (v.2 - u.2)) := by
        rintro y ⟨t, t0, t1, e⟩
        refine ⟨t, t0, t1, ?_⟩
        rw [e]; simp only; grind
      by_cases g1 : (x.1 - u.1) * (v.1 - u.1) + (x.2 - u.2) * (v.2 - u.2) < 0
      · refine ⟨v.1 - u.1, v.2 - u.2, -(u.1 * (v.1 - u.1) + u.2 * (v.2 - u.2)), by grind, fun y hy => ?_⟩
        obtain ⟨t, t0, t1, e⟩ := fy y hy
        have := Rat.mul_nonneg t0 (Rat.le_of_lt hN)
        grind
      by_cases g2 : (v.1 - u.1) * (v.1 - u.1) + (v.2 - u.2) * (v.2 - u.2) < (x.1 - u.1) * (v.1 - u.1) + (x.2 - u.2) * (v.2 - u.2)
      · refine ⟨-(v.1 - u.1), -(v.2 - u.2), u.1 * (v.1 - u.1) + u.2 * (v.2 - u.2) + ((v.1 - u.1) * (v.1 - u.1) + (v.2 - u.2) * (v.2 - u.2)), by grind, fun y hy => ?_⟩
        obtain ⟨t, t0, t1, e⟩ := fy y hy
        have := Rat.mul_nonneg (show 0 ≤ 1 - t by grind) (Rat.le_of_lt hN)
        grind
      exfalso
      apply h
      have f0 : 0 ≤ (x.1 - u.1) * (v.1 - u.1) + (x.2 - u.2) * (v.2 - u.2) := by grind
      have f1 : (x.1 - u.1) * (v.1 - u.1) + (x.2 - u.2) * (v.2 - u.2) ≤ (v.1 - u.1) * (v.1 - u.1) + (v.2 - u.2) * (v.2 - u.2) := by grind
      have n0 : (v.1 - u.1) * (v.1 - u.1) + (v.2 - u.2) * (v.2 - u.2) ≠ 0 := by grind
      have z1 : (x.1 - u.1) * ((v.1 - u.1) * (v.1 - u.1) + (v.2 - u.2) * (v.2 - u.2)) = (v.1 - u.1) * ((x.1 - u.1) * (v.1 - u.1) + (x.2 - u.2) * (v.2 - u.2)) := by unfold cr at hc; grind
      have z2 : (x.2 - u.2) * ((v.1 - u.1) * (v.1 - u.1) + (v.2 - u.2) * (v.2 - u.2)) = (v.2 - u.2) * ((x.1 - u.1) * (v.1 - u.1) + (x.2 - u.2) * (v.2 - u.2)) := by unfold cr at hc; grind
      refine ⟨_, div_nn hN f0, div_le1 hN f1, ?_⟩
      clear hc h g1 g2 fy huv
      generalize (v.1 - u.1) * (v.1 - u.1) + (v.2 - u.2) * (v.2 - u.2) = N at *
      generalize (x.1 - u.1) * (v.1 - u.1) + (x.2 - u.2) * (v.2 - u.2) = f at *
      apply Prod.ext
      · simp only; grind
      · simp only; grind
  · have key : ∀ y, On u v y → cr u v y = 0 := fun y hy => On_cr hy
    by_cases g : cr u v x < 0
    · refine ⟨-(v.2 - u.2), v.1 - u.1, -((v.1 - u.1) * u.2) + (v.2 - u.2) * u.1, by unfold cr at g; grind, fun y hy => ?_⟩
      have := key y hy
      unfold cr at this; grind
    · refine ⟨v.2 - u.2, -(v.1 - u.1), (v.1 - u.1) * u.2 - (v.2 - u.2) * u.1, by unfold cr at g hc; grind, fun y hy => ?_⟩
      have := key y hy
      unfold cr at this; grind
theorem room_lin {c g : Rat} (h : c < 0) : ∃ ε : Rat, 0 < ε ∧ ∀ t, 0 ≤ t → t ≤ ε → c + t * g < 0 := by
  by_cases hg : g ≤ 0
  · refine ⟨1, by grind, fun t t0 _ => ?_⟩
    have := Rat.mul_nonneg t0 (show 0 ≤ -g by grind)
    grind
  · have hg' : 0 < g := by grind
    have hp : 0 < -c / 2 := by grind
    refine ⟨(-c / 2) / g, div_pos hg' hp, fun t t0 t1 => ?_⟩
    have e : (-c / 2) / g * g = -c / 2 := by grind
    have := Rat.mul_nonneg (show 0 ≤ (-c / 2) / g - t by grind) (Rat.le_of_lt hg')
    grind
theorem room1 {u v x : Pt} (h : ¬ On u v x) (d : Pt) : ∃ ε : Rat, 0 < ε ∧ ∀ t, 0 ≤ t → t ≤ ε → ¬ On u v (x.1 + t * d.1, x.2 + t * d.2) := by
  obtain ⟨p, q, r, h1, h2⟩ := sep h
  obtain ⟨ε, e0, he⟩ := room_lin (c := p * x.1 + q * x.2 + r) (g := p * d.1 + q * d.2) h1
  refine ⟨ε, e0, fun t t0 t1 ho => ?_⟩
  have a := he t t0 t1
  have b := h2 _ ho
  simp only at b
  grind
theorem room_list (l : List (Pt × Pt)) (x d : Pt) (h : ∀ e ∈ l, ¬ On e.1 e.2 x) : ∃ ε : Rat, 0 < ε ∧ ∀ t, 0 ≤ t → t ≤ ε → ∀ e ∈ l, ¬ On e.1 e.2 (x.1 + t * d.1, x.2 + t * d.2) := by
  induction l with
  | nil => exact ⟨1, by grind, fun _ _ _ e he => by simp at he⟩
  | cons a l ih =>
    obtain ⟨ε1, p1, h1⟩ := ih (fun e he => h e (List.mem_cons_of_mem _ he))
    obtain ⟨ε2, p2, h2⟩ := room1 (h a (List.mem_cons_self ..)) d
    by_cases hle : ε1 ≤ ε2
    · refine ⟨ε1, p1, fun t t0 t1 e he => ?_⟩
      rcases List.mem_cons.1 he with rfl | he
      · exact h2 t t0 (by grind)
      · exact h1 t t0 t1 e he
    · refine ⟨ε2, p2, fun t t0 t1 e he => ?_⟩
      rcases List.mem_cons.1 he with rfl | he
      · exact h2 t t0 t1
      · exact h1 t t0 (by grind) e he
theorem room {P : List Pt} {x : Pt} (h : Off P x) (d : Pt) : ∃ ε : Rat, 0 < ε ∧ ∀ t, 0 ≤ t → t ≤ ε → Off P (x.1 + t * d.1, x.2 + t * d.2) := room_list (ces P) x d h
/-- along what is off, the count stays -/
theorem room_cw {P : List Pt} {x d : Pt} {ε : Rat} (h : ∀ t, 0 ≤ t → t ≤ ε → Off P (x.1 + t * d.1, x.2 + t * d.2)) (e0 : 0 ≤ ε) : cw P (x.1 + ε * d.1, x.2 + ε * d.2) = cw P x := by
  apply cw_move
  rintro e he y ⟨t, t0, t1, hy⟩ ho
  have e : y = (x.1 + (t * ε) * d.1, x.2 + (t * ε) * d.2) := by rw [hy]; apply Prod.ext <;> simp only <;> grind
  have p1 := Rat.mul_nonneg t0 e0
  have p2 := Rat.mul_nonneg (show 0 ≤ 1 - t by grind) e0
  rw [e] at ho
  exact h (t * ε) p1 (by grind) _ he ho
end Geo
end
section
/- A simple polygon winds about each point off it 0 times or s times, s being 1 or -1. -/
namespace Geo
theorem Rot.off {P Q : List Pt} (h : Rot P Q) {q : Pt} (o : Off P q) : Off Q q := fun e he => o e ((h.ces e).2 he)
/-- in the ear: the count is the ear's sign -/
theorem Good.inner {P L : List Pt} {v a b : Pt} (g : Good P v L a b) (hl : 3 ≤ L.length) {q : Pt}
    (q1 : 0 < bc v b a q) (q2 : 0 ≤ bc b a v q) (q3 : 0 < bc a v b q) : cw P q = sg (cr a v b) := by
  obtain ⟨M, hb⟩ := g.seen.head
  obtain ⟨N, ha⟩ := g.seen.last
  obtain ⟨m1, m2, m3⟩ := mid_in g.seen.turn
  rw [g.rot.cw, g.seen.const g.empty hl m1 (Rat.le_of_lt m2) m3 q1 q2 q3, cw_cons hb ha, g.seen.apex g.empty m1 m2 m3, g.out, triIn g.seen.turn m1 m2 m3]
  omega
/-- outside of the ear: the count is that of what is left -/
theorem Good.outer {P L : List Pt} {v a b : Pt} (g : Good P v L a b) {q : Pt} (h : ¬ InT a v b q) : cw P q = cw L q := by
  obtain ⟨M, hb⟩ := g.seen.head
  obtain ⟨N, ha⟩ := g.seen.last
  rw [g.rot.cw, cw_cons hb ha, triOut g.seen.turn h]
  omega
theorem On_InT {a v b q : Pt} (h : cr a v b ≠ 0) (ho : On a b q) : InT a v b q := by
  obtain ⟨t, t0, t1, e⟩ := ho
  have hr1 : cr v b a ≠ 0 := by rw [cr_rot2]; exact h
  have e1 := bc_aff v b a e
  have e2 := bc_aff b a v e
  have e3 := bc_aff a v b e
  rw [bc_b hr1, bc_v] at e1
  rw [bc_v, bc_a] at e2
  rw [bc_a, bc_b h] at e3
  exact ⟨by grind, by grind, by grind⟩
/-- off the polygon and in the ear's triangle: strictly within its two sides -/
theorem Good.within {P L : List Pt} {v a b : Pt} (g : Good P v L a b) {q : Pt} (o : Off P q) (h : InT a v b q) : 0 < bc v b a q ∧ 0 ≤ bc b a v q ∧ 0 < bc a v b q := by
  obtain ⟨M, hb⟩ := g.seen.head
  obtain ⟨N, ha⟩ := g.seen.last
  have hr1 : cr v b a ≠ 0 := by rw [cr_rot2]; exact g.seen.turn
  have o2 := g.rot.off o
  obtain ⟨h1, h2, h3⟩ := h
  refine ⟨?_, h2, ?_⟩
  · rcases (by grind : bc v b a q = 0 ∨ 0 < bc v b a q) with e | e
    · exact absurd (On_side hr1 e h2 h3) (o2 (v, b) ((ces_cons hb ha _).2 (Or.inl rfl)))
    · exact e
  · rcases (by grind : bc a v b q = 0 ∨ 0 < bc a v b q) with e | e
    · exact absurd (On_side g.seen.turn e h1 h2) (o2 (a, v) ((ces_cons hb ha _).2 (Or.inr (Or.inr rfl))))
    · exact e
theorem Good.offL {P L : List Pt} {v a b : Pt} (g : Good P v L a b) {q : Pt} (o : Off P q) (h : ¬ InT a v b q) : Off L q := by
  obtain ⟨M, hb⟩ := g.seen.head
  obtain ⟨N, ha⟩ := g.seen.last
  intro e he ho
  rcases (ces_L hb ha e).1 he with h1 | rfl
  · exact g.rot.off o e ((ces_cons hb ha e).2 (Or.inr (Or.inl h1))) ho
  · exact h (On_InT g.seen.turn ho)
/-- a triangle's sides alone -/
theorem Good.tri {P L : List Pt} {v a b : Pt} (g : Good P v L a b) (hl : L.length = 2) {q : Pt} (o : Off P q) : (InT a v b q → cw P q = sg (cr a v b)) ∧ (¬ InT a v b q → cw P q = 0) := by
  obtain ⟨M, hb⟩ := g.seen.head
  obtain ⟨N, ha⟩ := g.seen.last
  obtain ⟨c, rfl⟩ : ∃ c, M = [c] := by
    rw [hb] at hl
    match M, hl with
    | [c], _ => exact ⟨c, rfl⟩
    | [], h => simp at h
    | _ :: _ :: _, h => simp at h
  have hc : c = a := by
    rw [hb] at ha
    have := congrArg List.getLast? ha
    simpa using this
  subst hc
  have e0 : cw L q = 0 := by
    rw [hb]
    show cc b c q + (cc c b q + 0) = 0
    rw [cc_anti]; omega
  have e1 := cw_cons (v := v) hb ha q
  rw [e0] at e1
  have hr2 : cr b c v ≠ 0 := by rw [← cr_rot2]; exact g.seen.turn
  constructor
  · intro h
    obtain ⟨p1, p2, p3⟩ := g.within o h
    have p2' : 0 < bc b c v q := by
      rcases (by grind : bc b c v q = 0 ∨ 0 < bc b c v q) with e | e
      · have hba : (b, c) ∈ ces (v :: L) := (ces_cons hb ha _).2 (Or.inr (Or.inl (by rw [hb]; simp [es])))
        exact absurd (On_side hr2 e (Rat.le_of_lt p3) (Rat.le_of_lt p1)) (g.rot.off o (b, c) hba)
      · exact e
    rw [g.rot.cw, e1, triIn g.seen.turn p1 p2' p3]; omega
  · intro h
    rw [g.rot.cw, e1, triOut g.seen.turn h]; omega
theorem sg_cases {d : Rat} (h : d ≠ 0) : sg d = 1 ∨ sg d = -1 := by
  unfold sg
  by_cases g : 0 < d
  · rw [if_pos g]; exact Or.inl rfl
  · rw [if_neg g, if_pos (by grind)]; exact Or.inr rfl
theorem some_side {P : List Pt} (h : Simp P) : ∃ x y, (x, y) ∈ ces P := by
  have := h.len
  match P, this with
  | x :: _, _ => obtain ⟨w', hw⟩ := ces_out (P := x :: _) (w := x) (by simp); exact ⟨x, w', hw⟩
/-- across the ear's third side there is a point off the polygon where the count is the ear's sign -/
theorem Good.across {P L : List Pt} {v a b : Pt} (g : Good P v L a b) (hP : Simp P) (hl : 3 ≤ L.length) : ∃ y, Off P y ∧ ¬ InT a v b y ∧ cw P y = sg (cr a v b) := by
  have hr1 : cr v b a ≠ 0 := by rw [cr_rot2]; exact g.seen.turn
  have hr2 : cr b a v ≠ 0 := by rw [← cr_rot2]; exact g.seen.turn
  have hx : ∀ {x : Pt} {t : Rat}, x = (a.1 + t * (b.1 - a.1), a.2 + t * (b.2 - a.2)) → bc v b a x = 1 - t ∧ bc b a v x = 0 ∧ bc a v b x = t := by
    intro x t e
    have e1 := bc_aff v b a e
    have e2 := bc_aff b a v e
    have e3 := bc_aff a v b e
    rw [bc_b hr1, bc_v] at e1
    rw [bc_v, bc_a] at e2
    rw [bc_a, bc_b g.seen.turn] at e3
    exact ⟨by grind, by grind, by grind⟩
  obtain ⟨x1, x2, x3⟩ := hx (x := (a.1 + (1/2) * (b.1 - a.1), a.2 + (1/2) * (b.2 - a.2))) (t := 1/2) rfl
  generalize (a.1 + (1/2) * (b.1 - a.1), a.2 + (1/2) * (b.2 - a.2)) = x at *
  have px1 : 0 < bc v b a x := by rw [x1]; grind
  have px3 : 0 < bc a v b x := by rw [x3]; grind
  have ox : Off P x := by
    intro e he ho
    exact g.seen.clear g.empty hl ((g.rot.ces e).1 he) ho px1 (by grind) px3
  obtain ⟨ε, e0, he⟩ := room ox (x.1 - v.1, x.2 - v.2)
  refine ⟨_, he ε (Rat.le_of_lt e0) (by grind), ?_, ?_⟩
  · rintro ⟨_, h2, _⟩
    have := bc_aff b a v (u := x) (w := (x.1 + (x.1 - v.1), x.2 + (x.2 - v.2))) (x := (x.1 + ε * (x.1 - v.1, x.2 - v.2).1, x.2 + ε * (x.1 - v.1, x.2 - v.2).2)) (s := ε) (by apply Prod.ext <;> simp only <;> grind)
    have k := bc_aff b a v (u := v) (w := x) (x := (x.1 + (x.1 - v.1), x.2 + (x.2 - v.2))) (s := 2) (by apply Prod.ext <;> simp only <;> grind)
    rw [bc_b hr2] at k
    rw [this, k, x2] at h2
    have := Rat.mul_pos e0 (show (0 : Rat) < 1 by grind)
    grind
  · rw [room_cw he (Rat.le_of_lt e0)]
    exact g.inner hl px1 (by grind) px3
end Geo
end
section
/- From the grid to the plane: what the program tests of whole numbers, told of points with rational coordinates. -/
namespace Geo
def cz (p : IP) : Pt := ((p.1 : Rat), (p.2 : Rat))
theorem cz_inj {p q : IP} : cz p = cz q ↔ p = q := by
  unfold cz
  constructor
  · intro h
    simp only [Prod.mk.injEq] at h
    exact Prod.ext (Rat.intCast_inj.1 h.1) (Rat.intCast_inj.1 h.2)
  · rintro rfl; rfl
theorem cz_cr (a b c : IP) : cr (cz a) (cz b) (cz c) = ((crI a b c : Int) : Rat) := by
  unfold cr crI cz
  simp only [Rat.intCast_sub, Rat.intCast_mul]
theorem cr_pos (a b c : IP) : 0 < cr (cz a) (cz b) (cz c) ↔ 0 < crI a b c := by rw [cz_cr]; exact_mod_cast Iff.rfl
theorem cr_neg (a b c : IP) : cr (cz a) (cz b) (cz c) < 0 ↔ crI a b c < 0 := by rw [cz_cr]; exact_mod_cast Iff.rfl
theorem cr_nil (a b c : IP) : cr (cz a) (cz b) (cz c) = 0 ↔ crI a b c = 0 := by rw [cz_cr]; exact_mod_cast Iff.rfl
theorem cz_le1 {a b : IP} : (cz a).1 ≤ (cz b).1 ↔ a.1 ≤ b.1 := Rat.intCast_le_intCast
theorem cz_le2 {a b : IP} : (cz a).2 ≤ (cz b).2 ↔ a.2 ≤ b.2 := Rat.intCast_le_intCast
theorem cz_lt2 {a b : IP} : (cz a).2 < (cz b).2 ↔ a.2 < b.2 := Rat.intCast_lt_intCast
theorem wsd_cc (a b q : IP) : cc (cz a) (cz b) (cz q) = wsd a b q := by
  unfold cc wsd
  simp only [cz_le2, cz_lt2, cr_pos, cr_neg]
  by_cases h1 : a.2 ≤ q.2 ∧ q.2 < b.2 ∧ 0 < crI a b q
  · rw [if_pos h1, if_pos ⟨h1.1, by omega, by omega⟩]
  · rw [if_neg h1, if_neg (show ¬ (a.2 ≤ q.2 ∧ b.2 > q.2 ∧ crI a b q > 0) from fun h => h1 ⟨h.1, by omega, by omega⟩)]
    by_cases h2 : b.2 ≤ q.2 ∧ q.2 < a.2 ∧ crI a b q < 0
    · rw [if_pos h2, if_pos (show a.2 > q.2 ∧ b.2 ≤ q.2 ∧ crI a b q < 0 from ⟨by omega, h2.1, h2.2.2⟩)]
    · rw [if_neg h2, if_neg (show ¬ (a.2 > q.2 ∧ b.2 ≤ q.2 ∧ crI a b q < 0) from fun h => h2 ⟨h.2.1, by omega, h.2.2⟩)]
/-- between, by coordinates -/
theorem On_coord {u v x : Pt} (hc : cr u v x = 0) (h1 : (u.1 ≤ x.1 ∧ x.1 ≤ v.1) ∨ (v.1 ≤ x.1 ∧ x.1 ≤ u.1)) (h2 : (u.2 ≤ x.2 ∧ x.2 ≤ v.2) ∨ (v.2 ≤ x.2 ∧ x.2 ≤ u.2)) : On u v x := by
  rcases (by grind : u.2 < v.2 ∨ v.2 < u.2 ∨ u.2 = v.2) with g | g | g
  · exact On_ofY hc g (by grind) (by grind)
  · exact On_symm (On_ofY (by rw [cr_anti, hc]; grind) g (by grind) (by grind))
  · have x2 : x.2 = u.2 := by grind
    rcases (by grind : u.1 < v.1 ∨ v.1 < u.1 ∨ u.1 = v.1) with k | k | k
    · have hp : 0 < v.1 - u.1 := by grind
      refine ⟨(x.1 - u.1) / (v.1 - u.1), div_nn hp (by grind), div_le1 hp (by grind), Prod.ext ?_ ?_⟩ <;> simp only <;> grind
    · have hp : 0 < u.1 - v.1 := by grind
      refine ⟨(u.1 - x.1) / (u.1 - v.1), div_nn hp (by grind), div_le1 hp (by grind), Prod.ext ?_ ?_⟩ <;> simp only <;> grind
    · have : x = u := Prod.ext (by grind) x2
      rw [this]; exact On_left u v
theorem On_X {u v x : Pt} (h : On u v x) : (u.1 ≤ x.1 ∧ x.1 ≤ v.1) ∨ (v.1 ≤ x.1 ∧ x.1 ≤ u.1) := by
  obtain ⟨t, t0, t1, e⟩ := h
  by_cases g : u.1 ≤ v.1
  · left
    have p1 := Rat.mul_nonneg t0 (show 0 ≤ v.1 - u.1 by grind)
    have p2 := Rat.mul_nonneg (show 0 ≤ 1 - t by grind) (show 0 ≤ v.1 - u.1 by grind)
    rw [e]; simp only; grind
  · right
    have p1 := Rat.mul_nonneg t0 (show 0 ≤ u.1 - v.1 by grind)
    have p2 := Rat.mul_nonneg (show 0 ≤ 1 - t by grind) (show 0 ≤ u.1 - v.1 by grind)
    rw [e]; simp only; grind
theorem bet_On (a b q : IP) : BetI a b q ↔ On (cz a) (cz b) (cz q) := by
  constructor
  · rintro ⟨h1, h2, h3⟩
    refine On_coord ((cr_nil a b q).2 h1) ?_ ?_
    · simp only [cz_le1]; omega
    · simp only [cz_le2]; omega
  · intro h
    have h1 := (cr_nil a b q).1 (On_cr h)
    have h2 := On_X h
    have h3 := On_Y h
    simp only [cz_le1] at h2
    simp only [cz_le2] at h3
    exact ⟨h1, by omega, by omega⟩
/-- a point of the line of two points, by its number along it -/
theorem on_num {a b c : Pt} (h : a ≠ b) (hc : cr a b c = 0) : ∃ t : Rat, c = (a.1 + t * (b.1 - a.1), a.2 + t * (b.2 - a.2)) := by
  by_cases g : b.1 - a.1 = 0
  · have k : b.2 - a.2 ≠ 0 := fun k => h (Prod.ext (by grind) (by grind))
    refine ⟨(c.2 - a.2) / (b.2 - a.2), Prod.ext ?_ ?_⟩ <;> unfold cr at hc <;> simp only <;> grind
  · refine ⟨(c.1 - a.1) / (b.1 - a.1), Prod.ext ?_ ?_⟩ <;> unfold cr at hc <;> simp only <;> grind
theorem num_inj {a b : Pt} (h : a ≠ b) {s t : Rat} (e : ((a.1 + s * (b.1 - a.1), a.2 + s * (b.2 - a.2)) : Pt) = (a.1 + t * (b.1 - a.1), a.2 + t * (b.2 - a.2))) : s = t := by
  simp only [Prod.mk.injEq] at e
  by_cases g : b.1 - a.1 = 0
  · have k : b.2 - a.2 ≠ 0 := fun k => h (Prod.ext (by grind) (by grind))
    grind
  · grind
/-- two segments on one line that have a point in common: an end of one lies on the other -/
theorem meet_line {a b c d x : Pt} (h : a ≠ b) (hc : cr a b c = 0) (hd : cr a b d = 0) (h1 : On a b x) (h2 : On c d x) : On a b c ∨ On a b d ∨ On c d a := by
  obtain ⟨s, es⟩ := on_num h hc
  obtain ⟨t, et⟩ := on_num h hd
  obtain ⟨r, r0, r1, er⟩ := h1
  obtain ⟨m, m0, m1, em⟩ := h2
  have e : r = (1 - m) * s + m * t := by
    apply num_inj h
    rw [← er, em, es, et]
    apply Prod.ext <;> simp only <;> grind
  by_cases s1 : 0 ≤ s ∧ s ≤ 1
  · exact Or.inl ⟨s, s1.1, s1.2, es⟩
  by_cases t1 : 0 ≤ t ∧ t ≤ 1
  · exact Or.inr (Or.inl ⟨t, t1.1, t1.2, et⟩)
  right; right
  have p1 := @Rat.mul_nonneg m
  have key : ∀ {s t m : Rat}, 0 ≤ m → m ≤ 1 → s < 0 → t < 0 → (1 - m) * s + m * t < 0 := by
    intro s t m m0 m1 hs ht
    have := On_pos m0 m1 (show 0 < -s by grind) (show 0 < -t by grind)
    grind
  rcases (by grind : s < 0 ∨ 1 < s) with g | g
  · rcases (by grind : t < 0 ∨ 1 < t) with k | k
    · have := key m0 m1 g k; grind
    · have hp : 0 < t - s := by grind
      refine ⟨-s / (t - s), div_nn hp (by grind), div_le1 hp (by grind), ?_⟩
      rw [es, et]; apply Prod.ext <;> simp only <;> grind
  · rcases (by grind : t < 0 ∨ 1 < t) with k | k
    · have hp : 0 < s - t := by grind
      refine ⟨s / (s - t), div_nn hp (by grind), div_le1 hp (by grind), ?_⟩
      rw [es, et]; apply Prod.ext <;> simp only <;> grind
    · have := On_pos m0 m1 (show 0 < s - 1 by grind) (show 0 < t - 1 by grind)
      grind
theorem cr_On_comb {a b c d x : Pt} {m : Rat} (e : x = (c.1 + m * (d.1 - c.1), c.2 + m * (d.2 - c.2))) : cr a b x = (1 - m) * cr a b c + m * cr a b d := by
  rw [e]; unfold cr; simp only; grind
/-- what meets -/
def MeetR (a b c d : Pt) : Prop := On a b c ∨ On a b d ∨ On c d a ∨ On c d b ∨ (((cr a b c < 0 ∧ 0 < cr a b d) ∨ (0 < cr a b c ∧ cr a b d < 0)) ∧ ((cr c d a < 0 ∧ 0 < cr c d b) ∨ (0 < cr c d a ∧ cr c d b < 0)))
theorem half {a b c d x : Pt} (h : a ≠ b) (h1 : On a b x) (h2 : On c d x) : On a b c ∨ On a b d ∨ On c d a ∨ ((cr a b c < 0 ∧ 0 < cr a b d) ∨ (0 < cr a b c ∧ cr a b d < 0)) := by
  obtain ⟨m, m0, m1, em⟩ := h2
  have e := cr_On_comb (a := a) (b := b) em
  rw [On_cr h1] at e
  by_cases hc : cr a b c = 0
  · by_cases hd : cr a b d = 0
    · rcases meet_line h hc hd h1 ⟨m, m0, m1, em⟩ with g | g | g
      · exact Or.inl g
      · exact Or.inr (Or.inl g)
      · exact Or.inr (Or.inr (Or.inl g))
    · have hm : m = 0 := by grind
      have : x = c := by rw [em, hm]; apply Prod.ext <;> simp only <;> grind
      exact Or.inl (this ▸ h1)
  · by_cases hd : cr a b d = 0
    · have hm : m = 1 := by grind
      have : x = d := by rw [em, hm]; apply Prod.ext <;> simp only <;> grind
      exact Or.inr (Or.inl (this ▸ h1))
    · right; right; right
      rcases (by grind : cr a b c < 0 ∨ 0 < cr a b c) with g | g
      · rcases (by grind : cr a b d < 0 ∨ 0 < cr a b d) with k | k
        · have := On_pos m0 m1 (show 0 < -cr a b c by grind) (show 0 < -cr a b d by grind); grind
        · exact Or.inl ⟨g, k⟩
      · rcases (by grind : cr a b d < 0 ∨ 0 < cr a b d) with k | k
        · exact Or.inr ⟨g, k⟩
        · have := On_pos m0 m1 g k; grind
theorem meets_of {a b c d x : Pt} (h : a ≠ b) (k : c ≠ d) (h1 : On a b x) (h2 : On c d x) : MeetR a b c d := by
  rcases half h h1 h2 with g | g | g | g
  · exact Or.inl g
  · exact Or.inr (Or.inl g)
  · exact Or.inr (Or.inr (Or.inl g))
  rcases half k h2 h1 with l | l | l | l
  · exact Or.inr (Or.inr (Or.inl l))
  · exact Or.inr (Or.inr (Or.inr (Or.inl l)))
  · exact Or.inl l
  exact Or.inr (Or.inr (Or.inr (Or.inr ⟨g, l⟩)))
theorem meetI_R (a b c d : IP) : MeetI a b c d ↔ MeetR (cz a) (cz b) (cz c) (cz d) := by
  unfold MeetI MeetR DivI
  simp only [bet_On, cr_pos, cr_neg]
/-- neighbours: a common point other than the common end would fold one over the other -/
theorem fold_of {a b c x : Pt} (h1 : On a b x) (h2 : On b c x) (hx : x ≠ b) : On a b c ∨ On b c a := by
  obtain ⟨t, t0, t1, e⟩ := On_symm h1
  obtain ⟨s, s0, s1, f⟩ := h2
  have tp : t ≠ 0 := by rintro rfl; apply hx; rw [e]; apply Prod.ext <;> simp only <;> grind
  have sp : s ≠ 0 := by rintro rfl; apply hx; rw [f]; apply Prod.ext <;> simp only <;> grind
  have tp' : 0 < t := by grind
  have sp' : 0 < s := by grind
  have k1 : t * (a.1 - b.1) = s * (c.1 - b.1) := by have := congrArg Prod.fst (e.symm.trans f); simp only at this; grind
  have k2 : t * (a.2 - b.2) = s * (c.2 - b.2) := by have := congrArg Prod.snd (e.symm.trans f); simp only at this; grind
  by_cases g : t ≤ s
  · left
    refine On_symm ⟨t / s, div_nn sp' t0, div_le1 sp' g, Prod.ext ?_ ?_⟩ <;> simp only <;> grind
  · right
    refine ⟨s / t, div_nn tp' s0, div_le1 tp' (by grind), Prod.ext ?_ ?_⟩ <;> simp only <;> grind
end Geo
end
section
/- A polygon that the program finds simple is simple in the plane; its winding is the one that is counted. -/
namespace Geo
def czL (P : List IP) : List Pt := P.map cz
theorem czL_len (P : List IP) : (czL P).length = P.length := by simp [czL]
theorem es_get (L : List Pt) (e : Pt × Pt) : e ∈ es L ↔ ∃ i, i + 1 < L.length ∧ e = (L.getD i (0, 0), L.getD (i + 1) (0, 0)) := by
  induction L with
  | nil => simp [es]
  | cons a l ih =>
    cases l with
    | nil => simp [es]
    | cons b l =>
      rw [es_two, List.mem_cons, ih]
      constructor
      · rintro (h | ⟨i, hi, h⟩)
        · exact ⟨0, by simp, h⟩
        · exact ⟨i + 1, by simp at hi ⊢; omega, h⟩
      · rintro ⟨i, hi, h⟩
        cases i with
        | zero => exact Or.inl h
        | succ i => exact Or.inr ⟨i, by simp at hi ⊢; omega, h⟩
theorem pw_get (L : List Pt) (q : Pt) : pw L q = sumN (fun i => cc (L.getD i (0, 0)) (L.getD (i + 1) (0, 0)) q) (L.length - 1) := by
  induction L with
  | nil => rfl
  | cons a l ih =>
    cases l with
    | nil => rfl
    | cons b l =>
      rw [pw_two, ih]
      show _ = sumN _ (l.length + 1)
      rw [sumN_head]
      rfl
theorem closed_get (P : List IP) (hP : P ≠ []) : ∃ a l, czL P = a :: l ∧ ∀ i, i ≤ P.length → (a :: (l ++ [a])).getD i (0, 0) = cz (nth P i) := by
  cases P with
  | nil => exact absurd rfl hP
  | cons p P =>
    refine ⟨cz p, P.map cz, rfl, fun i hi => ?_⟩
    have key : ∀ j, j < (p :: P).length → (cz p :: (P.map cz ++ [cz p])).getD j (0, 0) = cz ((p :: P).getD j (0, 0)) := by
      intro j hj
      rw [← List.cons_append]
      simp only [List.getD]
      rw [List.getElem?_append_left (by simpa using hj), ← List.map_cons, List.getElem?_map, List.getElem?_eq_getElem hj]
      rfl
    unfold nth
    by_cases h : i < (p :: P).length
    · rw [Nat.mod_eq_of_lt h]; exact key i h
    · have : i = (p :: P).length := by omega
      subst this
      rw [Nat.mod_self]
      have h2 : (cz p :: (P.map cz ++ [cz p])).getD (p :: P).length (0, 0) = cz p := by
        rw [← List.cons_append]
        simp only [List.getD]
        rw [List.getElem?_append_right (by simp)]
        simp
      rw [h2]; rfl
theorem ces_get {P : List IP} (hP : P ≠ []) (e : Pt × Pt) : e ∈ ces (czL P) ↔ ∃ i, i < P.length ∧ e = (cz (nth P i), cz (nth P (i + 1))) := by
  obtain ⟨a, l, h, k⟩ := closed_get P hP
  have hl : (a :: (l ++ [a])).length = P.length + 1 := by
    have := congrArg List.length h
    rw [czL_len] at this
    simp at this ⊢; omega
  rw [h]
  show e ∈ es (a :: (l ++ [a])) ↔ _
  rw [es_get, hl]
  constructor
  · rintro ⟨i, hi, he⟩; exact ⟨i, by omega, by rw [he, k i (by omega), k (i + 1) (by omega)]⟩
  · rintro ⟨i, hi, he⟩; exact ⟨i, by omega, by rw [he, k i (by omega), k (i + 1) (by omega)]⟩
theorem cw_cz {P : List IP} (hP : P ≠ []) (q : IP) : cw (czL P) (cz q) = wndI P q := by
  obtain ⟨a, l, h, k⟩ := closed_get P hP
  have hl : (a :: (l ++ [a])).length = P.length + 1 := by
    have := congrArg List.length h
    rw [czL_len] at this
    simp at this ⊢; omega
  rw [h]
  show pw (a :: (l ++ [a])) (cz q) = _
  rw [pw_get, hl]
  unfold wndI
  exact sumN_congr (fun i hi => by rw [k i (by omega), k (i + 1) (by omega), wsd_cc])
theorem off_cz {P : List IP} (hP : P ≠ []) {q : IP} : Off (czL P) (cz q) ↔ ¬ OnI P q := by
  unfold Off OnI
  constructor
  · rintro h ⟨i, hi, hb⟩
    exact h _ ((ces_get hP _).2 ⟨i, hi, rfl⟩) ((bet_On _ _ _).1 hb)
  · intro h e he ho
    obtain ⟨i, hi, rfl⟩ := (ces_get hP e).1 he
    exact h ⟨i, hi, (bet_On _ _ _).2 ho⟩
theorem nbr {a b c : IP} (h1 : ¬ BetI a b c) (h2 : ¬ BetI b c a) {x : Pt} (hx : On (cz a) (cz b) x) (hy : On (cz b) (cz c) x) : x = cz b := by
  by_cases h : x = cz b
  · exact h
  · rcases fold_of hx hy h with g | g
    · exact absurd ((bet_On _ _ _).2 g) h1
    · exact absurd ((bet_On _ _ _).2 g) h2
theorem simp_cz {P : List IP} (h3 : 3 ≤ P.length) (h : SimpI P) : Simp (czL P) where
  len := by rw [czL_len]; exact h3
  nodup := by
    unfold List.Nodup
    rw [List.pairwise_iff_getElem]
    intro i j hi hj hij e
    rw [czL_len] at hi hj
    have cg : ∀ t (ht : t < (czL P).length) (ht2 : t < P.length), (czL P)[t] = cz P[t] := fun t ht ht2 => by simp [czL]
    rw [cg i _ hi, cg j _ hj, cz_inj] at e
    have e2 : nth P i = nth P j := by
      unfold nth
      rw [Nat.mod_eq_of_lt hi, Nat.mod_eq_of_lt hj]
      simpa [List.getD, hi, hj] using e
    obtain ⟨g1, _, _, g4⟩ := h i hi
    by_cases c1 : j = i + 1
    · rw [c1] at e2; exact g1 e2
    · by_cases c2 : i = 0 ∧ j = P.length - 1
      · obtain ⟨k1, _⟩ := h j hj
        apply k1
        rw [← e2, c2.1, c2.2, show P.length - 1 + 1 = 0 + P.length by omega, nth_per]
      · apply g4 j (by omega) hj c2
        left
        rw [← e2]
        exact ⟨by unfold crI; grind, by omega, by omega⟩
  meet := by
    have hP : P ≠ [] := by rintro rfl; simp at h3
    have key : ∀ i j, i < j → j < P.length → ∀ x, On (cz (nth P i)) (cz (nth P (i + 1))) x → On (cz (nth P j)) (cz (nth P (j + 1))) x →
        (x = cz (nth P i) ∨ x = cz (nth P (i + 1))) ∧ (x = cz (nth P j) ∨ x = cz (nth P (j + 1))) := by
      intro i j hij hj x hx hy
      obtain ⟨g1, g2, g3, g4⟩ := h i (by omega)
      obtain ⟨k1, k2, k3, _⟩ := h j hj
      by_cases c1 : j = i + 1
      · subst c1
        have := nbr g2 g3 hx hy
        exact ⟨Or.inr this, Or.inl this⟩
      · by_cases c2 : i = 0 ∧ j = P.length - 1
        · have e0 : nth P (j + 1) = nth P i := by rw [c2.1, c2.2, show P.length - 1 + 1 = 0 + P.length by omega, nth_per]
          have e1 : nth P (j + 2) = nth P (i + 1) := by rw [c2.1, c2.2, show P.length - 1 + 2 = 0 + 1 + P.length by omega, nth_per]
          rw [e0, e1] at k2 k3
          rw [e0] at hy
          have := nbr k2 k3 hy hx
          rw [e0]
          exact ⟨Or.inl this, Or.inr this⟩
        · exact absurd ((meetI_R _ _ _ _).2 (meets_of (fun e => g1 (cz_inj.1 e)) (fun e => k1 (cz_inj.1 e)) hx hy)) (g4 j (by omega) hj c2)
    intro e he f hf hne x hx hy
    obtain ⟨i, hi, rfl⟩ := (ces_get hP e).1 he
    obtain ⟨j, hj, rfl⟩ := (ces_get hP f).1 hf
    rcases Nat.lt_trichotomy i j with g | g | g
    · exact key i j g hj x hx hy
    · subst g; exact absurd rfl hne
    · have := key j i g hi x hy hx
      exact ⟨this.2, this.1⟩
end Geo
end
section
/- What the reference's polygon functions compute. -/
namespace Pl
open Go Geo Pm
/-- twice the area, as a sum of cross products -/
def shoe (a b : IP) : Int := a.1 * b.2 - a.2 * b.1
theorem shoe_area (P : List IP) : sumN (fun i => shoe (nth P i) (nth P (i + 1))) P.length = areaI P := by
  have h := sum_cyc (P := P) (fun s => s.1 * s.2)
  unfold areaI
  rw [← sumN_neg]
  have h2 : sumN (fun i => shoe (nth P i) (nth P (i + 1))) P.length = sumN (fun i => -trap (nth P i) (nth P (i + 1)) + ((nth P (i + 1)).1 * (nth P (i + 1)).2 - (nth P i).1 * (nth P i).2)) P.length :=
    sumN_congr (fun i _ => by unfold shoe trap; grind)
  rw [h2, sumN_add, h, Int.add_zero]
end Pl
end
section
/- The normal form: what the program computes. -/
namespace Pl
open Go Geo Pm
/-- the vertices where the polygon turns -/
def turnsAt (P : List IP) (i : Nat) : Bool := crI (nth P (i + P.length - 1)) (nth P i) (nth P (i + 1)) != 0
def corn (P : List IP) : List IP := ((List.range P.length).filter (turnsAt P)).map (nth P)
end Pl
end
section
/- A vertex in the middle of a straight piece may be left out: nothing changes. -/
namespace Geo
theorem inv_lt1 {t : Rat} (h : 1 < t) : 0 < 1 / t ∧ 1 / t < 1 ∧ (1 / t) * t = 1 := by
  have h0 : 0 < t := by grind
  have e : (1 / t) * t = 1 := by grind
  have p := div_pos (a := 1) h0 (by grind)
  refine ⟨p, ?_, e⟩
  by_cases hc : 1 / t < 1
  · exact hc
  · exfalso
    have h1 : 1 ≤ 1 / t := by grind
    have := Rat.mul_nonneg (show 0 ≤ 1 / t - 1 by grind) (show 0 ≤ t by grind)
    grind
/-- neither end folds over the other: the vertex lies between -/
theorem between_of {a v b : Pt} (hav : a ≠ v) (h : cr a v b = 0) (h1 : ¬ On a v b) (h2 : ¬ On v b a) : On a b v := by
  obtain ⟨t, e⟩ := on_num hav h
  by_cases t1 : 1 < t
  · obtain ⟨p, q, r⟩ := inv_lt1 t1
    refine ⟨1 / t, by grind, by grind, ?_⟩
    rw [e]
    apply Prod.ext <;> simp only <;> grind
  · by_cases t0 : 0 ≤ t
    · exact absurd ⟨t, t0, by grind, e⟩ h1
    · exfalso
      obtain ⟨p, q, r⟩ := inv_lt1 (t := 1 - t) (by grind)
      refine h2 ⟨1 / (1 - t), by grind, by grind, ?_⟩
      rw [e]
      apply Prod.ext <;> simp only <;> grind
/-- strictly between -/
theorem between_strict {a v b : Pt} (hav : a ≠ v) (hvb : v ≠ b) (h : On a b v) : ∃ t : Rat, 0 < t ∧ t < 1 ∧ v = (a.1 + t * (b.1 - a.1), a.2 + t * (b.2 - a.2)) := by
  obtain ⟨t, t0, t1, e⟩ := h
  refine ⟨t, ?_, ?_, e⟩
  · by_cases h : t = 0
    · subst h; exact absurd (by rw [e]; apply Prod.ext <;> simp only <;> grind) hav
    · grind
  · by_cases h : t = 1
    · subst h; exact absurd (by rw [e]; apply Prod.ext <;> simp only <;> grind) hvb
    · grind
theorem On_halves {a v b x : Pt} (hav : a ≠ v) (hvb : v ≠ b) (h : On a b v) : On a b x ↔ On a v x ∨ On v b x := by
  constructor
  · rintro ⟨s, s0, s1, e⟩
    obtain ⟨t, t0, t1, f⟩ := between_strict hav hvb h
    by_cases hst : s ≤ t
    · refine Or.inl ⟨s / t, div_nn t0 s0, div_le1 t0 hst, ?_⟩
      have : s / t * t = s := by grind
      rw [e, f]
      apply Prod.ext <;> simp only <;> grind
    · have p : 0 < 1 - t := by grind
      refine Or.inr ⟨(s - t) / (1 - t), div_nn p (by grind), div_le1 p (by grind), ?_⟩
      have : (s - t) / (1 - t) * (1 - t) = s - t := by grind
      rw [e, f]
      apply Prod.ext <;> simp only <;> grind
  · rintro (k | k)
    · exact On_symm (On_sub (On_symm h) (On_symm k))
    · exact On_sub h k
end Geo
end
section
/- Leaving out a straight vertex of a simple polygon; twice the area of a closed path. -/
namespace Geo
theorem Simp.ends {v a b : Pt} {L M N : List Pt} (h : Simp (v :: L)) (hb : L = b :: M) (ha : L = N ++ [a]) : a ≠ v ∧ v ≠ b ∧ a ≠ b ∧ b ∈ L ∧ a ∈ L ∧ v ∉ L := by
  have hn := List.nodup_cons.1 h.nodup
  have hbm : b ∈ L := by rw [hb]; simp
  have ham : a ∈ L := by rw [ha]; simp
  refine ⟨fun e => hn.1 (e ▸ ham), fun e => hn.1 (e ▸ hbm), fun e => ?_, hbm, ham, hn.1⟩
  subst e
  have hl := h.len
  have h2 := hn.2
  rw [hb] at h2 ha
  cases N with
  | nil => simp at ha; subst ha; rw [hb] at hl; simp at hl
  | cons c N =>
    rw [List.cons_append, List.cons.injEq] at ha
    rw [ha.2] at h2
    exact (List.nodup_cons.1 h2).1 (by simp)
/-- a straight vertex lies between its neighbours -/
theorem Simp.mid {v a b : Pt} {L M N : List Pt} (h : Simp (v :: L)) (hb : L = b :: M) (ha : L = N ++ [a]) (h0 : cr a v b = 0) : On a b v ∧ 3 ≤ L.length := by
  obtain ⟨h1, h2, h3, h4, h5, h6⟩ := h.ends hb ha
  have hce := ces_cons (v := v) hb ha
  have hm : On a b v := by
    refine between_of h1 h0 (fun ho => ?_) (fun ho => ?_)
    · rcases h.vert ((hce (a, v)).2 (Or.inr (Or.inr rfl))) (List.mem_cons_of_mem _ h4) ho with e | e
      · exact h3 e.symm
      · exact h2 e.symm
    · rcases h.vert ((hce (v, b)).2 (Or.inl rfl)) (List.mem_cons_of_mem _ h5) ho with e | e
      · exact h1 e
      · exact h3 e
  refine ⟨hm, ?_⟩
  have hl := h.len
  simp only [List.length_cons] at hl
  by_cases h7 : L.length = 2
  · exfalso
    have hL : L = [b, a] := by
      rw [hb] at h7 ha ⊢
      match M, h7 with
      | [c], _ =>
        cases N with
        | nil => simp at ha
        | cons d N =>
          rw [List.cons_append, List.cons.injEq] at ha
          cases N with
          | nil => simp at ha; rw [ha.2]
          | cons _ _ => have := congrArg List.length ha.2; simp at this
    have hs : (b, a) ∈ ces (v :: L) := (hce (b, a)).2 (Or.inr (Or.inl (by rw [hL]; simp [es])))
    rcases h.vert hs List.mem_cons_self (On_symm hm) with e | e
    · exact h2 e
    · exact h1 e.symm
  · omega
theorem Simp.skip {v a b : Pt} {L M N : List Pt} (h : Simp (v :: L)) (hb : L = b :: M) (ha : L = N ++ [a]) (h0 : cr a v b = 0) : Simp L where
  len := (h.mid hb ha h0).2
  nodup := (List.nodup_cons.1 h.nodup).2
  meet := by
    obtain ⟨h1, h2, h3, h4, h5, h6⟩ := h.ends hb ha
    obtain ⟨hm, _⟩ := h.mid hb ha h0
    have hce := ces_cons (v := v) hb ha
    have key : ∀ f ∈ es L, ∀ x, On a b x → On f.1 f.2 x → (x = a ∨ x = b) ∧ (x = f.1 ∨ x = f.2) := by
      intro f hf x hx hy
      have hfm := es_mem hf
      rcases (On_halves h1 h2 hm).1 hx with hx | hx
      · have := h.meet (a, v) ((hce _).2 (Or.inr (Or.inr rfl))) f ((hce _).2 (Or.inr (Or.inl hf))) (fun e => h6 (by rw [← e] at hfm; exact hfm.2)) x hx hy
        refine ⟨?_, this.2⟩
        rcases this.1 with e | e
        · exact Or.inl e
        · exfalso
          have e : x = v := e
          rcases this.2 with k | k
          · exact h6 (by rw [← e, k]; exact hfm.1)
          · exact h6 (by rw [← e, k]; exact hfm.2)
      · have := h.meet (v, b) ((hce _).2 (Or.inl rfl)) f ((hce _).2 (Or.inr (Or.inl hf))) (fun e => h6 (by rw [← e] at hfm; exact hfm.1)) x hx hy
        refine ⟨?_, this.2⟩
        rcases this.1 with e | e
        · exfalso
          have e : x = v := e
          rcases this.2 with k | k
          · exact h6 (by rw [← e, k]; exact hfm.1)
          · exact h6 (by rw [← e, k]; exact hfm.2)
        · exact Or.inr e
    intro e he f hf hne x hx hy
    rcases (ces_L hb ha e).1 he with he | he <;> rcases (ces_L hb ha f).1 hf with hf | hf
    · exact h.meet e ((hce _).2 (Or.inr (Or.inl he))) f ((hce _).2 (Or.inr (Or.inl hf))) hne x hx hy
    · subst hf; exact (key e he x hy hx).symm
    · subst he; exact key f hf x hx hy
    · exact absurd (he.trans hf.symm) hne
/-- on a side -/
def OnP (P : List Pt) (q : Pt) : Prop := ∃ e ∈ ces P, On e.1 e.2 q
theorem off_iff {P : List Pt} {q : Pt} : Off P q ↔ ¬ OnP P q := ⟨fun h ⟨e, he, ho⟩ => h e he ho, fun h e he ho => h ⟨e, he, ho⟩⟩
theorem Rot.onP {P Q : List Pt} (h : Rot P Q) (q : Pt) : OnP P q ↔ OnP Q q :=
  ⟨fun ⟨e, he, ho⟩ => ⟨e, (h.ces e).1 he, ho⟩, fun ⟨e, he, ho⟩ => ⟨e, (h.ces e).2 he, ho⟩⟩
/-- twice the area -/
def sh (a b : Pt) : Rat := a.1 * b.2 - a.2 * b.1
def pa : List Pt → Rat
  | a :: b :: l => sh a b + pa (b :: l)
  | _ => 0
def ar : List Pt → Rat
  | [] => 0
  | a :: l => pa (a :: (l ++ [a]))
theorem pa_two (a b : Pt) (l : List Pt) : pa (a :: b :: l) = sh a b + pa (b :: l) := rfl
theorem pa_split (A : List Pt) (x : Pt) (B : List Pt) : pa (A ++ x :: B) = pa (A ++ [x]) + pa (x :: B) := by
  induction A with
  | nil => show pa (x :: B) = 0 + pa (x :: B); grind
  | cons a A ih =>
    cases A with
    | nil =>
      show sh a x + pa (x :: B) = (sh a x + 0) + pa (x :: B)
      grind
    | cons b A =>
      simp only [List.cons_append, pa_two] at ih ⊢
      rw [ih]
      grind
theorem pa_snoc (A : List Pt) (x y : Pt) : pa (A ++ [x] ++ [y]) = pa (A ++ [x]) + sh x y := by
  rw [List.append_assoc]
  show pa (A ++ x :: [y]) = _
  rw [pa_split]
  show _ + (sh x y + 0) = _
  grind
theorem ar_rot (A B : List Pt) : ar (A ++ B) = ar (B ++ A) := by
  cases A with
  | nil => simp
  | cons a A =>
    cases B with
    | nil => simp
    | cons b B =>
      simp only [List.cons_append, ar, List.append_assoc]
      have h1 := pa_split (a :: A) b (B ++ [a])
      have h2 := pa_split (b :: B) a (A ++ [b])
      simp only [List.cons_append, List.append_assoc] at h1 h2
      rw [h1, h2]; grind
theorem Rot.ar {P Q : List Pt} (h : Rot P Q) : ar P = Geo.ar Q := by
  obtain ⟨A, B, rfl, rfl⟩ := h
  exact ar_rot A B
theorem ar_cons {v a b : Pt} {L M N : List Pt} (hb : L = b :: M) (ha : L = N ++ [a]) : ar (v :: L) = ar L + cr a v b := by
  have h1 : ar (v :: L) = sh v b + pa (L ++ [v]) := by rw [hb]; rfl
  have h2 : ar L = pa (L ++ [b]) := by rw [hb]; rfl
  rw [h1, h2, ha, pa_snoc, pa_snoc]
  unfold sh cr
  grind
theorem pa_get (L : List Pt) : ∀ f : Nat → Int, (∀ i, i + 1 < L.length → sh (L.getD i (0, 0)) (L.getD (i + 1) (0, 0)) = (f i : Rat)) → pa L = ((sumN f (L.length - 1) : Int) : Rat) := by
  induction L with
  | nil => intro f _; rfl
  | cons a l ih =>
    cases l with
    | nil => intro f _; rfl
    | cons b l =>
      intro f h
      rw [pa_two, ih (fun i => f (i + 1)) (fun i hi => h (i + 1) (by simpa using hi))]
      show _ = ((sumN _ (l.length + 1) : Int) : Rat)
      rw [sumN_head, Rat.intCast_add, ← h 0 (by simp)]
      rfl
end Geo
end
section
/- The corners of a simple polygon: the straight vertices left out. -/
namespace Geo
def hd (L : List Pt) (z : Pt) : Pt := L.headD z
def lst (p : Pt) : List Pt → Pt
  | [] => p
  | a :: l => lst a l
/-- the corners of a path with what stands ahead and behind -/
def crns (p : Pt) : List Pt → Pt → List Pt
  | [], _ => []
  | v :: L, z => if cr p v (hd L z) = 0 then crns v L z else v :: crns v L z
theorem crns_app (A : List Pt) : ∀ (p v z : Pt) (B : List Pt), crns p (A ++ v :: B) z = crns p A v ++ crns (lst p A) (v :: B) z := by
  induction A with
  | nil => intro p v z B; rfl
  | cons a A ih =>
    intro p v z B
    have e1 : hd (A ++ v :: B) z = hd A v := by cases A <;> rfl
    have e2 : lst p (a :: A) = lst a A := rfl
    rw [List.cons_append, crns, crns, e1, e2, ih]
    split <;> rfl
/-- the corners of a closed path -/
def cnr : List Pt → List Pt
  | [] => []
  | a :: l => crns (lst a l) (a :: l) a
theorem lst_app (p : Pt) (A : List Pt) (b : Pt) (B : List Pt) : lst p (A ++ b :: B) = lst b B := by
  induction A generalizing p with
  | nil => rfl
  | cons a A ih => exact ih a
theorem cnr_app (a b : Pt) (A B : List Pt) : cnr (a :: A ++ b :: B) = crns (lst b B) (a :: A) b ++ crns (lst a A) (b :: B) a := by
  have e : lst a (A ++ b :: B) = lst b B := lst_app a A b B
  show crns (lst a (A ++ b :: B)) (a :: A ++ b :: B) a = _
  rw [crns_app, e]
  rfl
theorem crns_sub (L : List Pt) : ∀ (p z : Pt), (crns p L z).Sublist L := by
  induction L with
  | nil => intro p z; exact List.Sublist.slnil
  | cons v L ih =>
    intro p z
    rw [crns]
    split
    · exact (ih v z).cons _
    · exact (ih v z).cons_cons _
theorem cnr_same_rot {P Q : List Pt} (h : Rot P Q) (hs : cnr P = P) : cnr Q = Q := by
  obtain ⟨A, B, rfl, rfl⟩ := h
  cases A with
  | nil => simpa using hs
  | cons a A =>
    cases B with
    | nil => simpa using hs
    | cons b B =>
      rw [cnr_app] at hs ⊢
      have s1 := crns_sub (a :: A) (lst b B) b
      have s2 := crns_sub (b :: B) (lst a A) a
      have hl := congrArg List.length hs
      simp only [List.length_append] at hl
      have l1 := s1.length_le
      have l2 := s2.length_le
      rw [s1.eq_of_length (by omega), s2.eq_of_length (by omega)]
end Geo
end
section
/- The sign of the area is that of the winding; common points of segments; back to the program's test. -/
namespace Geo
theorem sg_mul {d : Rat} (h : d ≠ 0) : 0 < ((sg d : Int) : Rat) * d := by
  unfold sg
  by_cases h1 : 0 < d
  · rw [if_pos h1]
    show 0 < ((1 : Int) : Rat) * d
    rw [Rat.intCast_one, Rat.one_mul]; exact h1
  · rw [if_neg h1, if_pos (by grind)]
    have e : ((-1 : Int) : Rat) = -1 := rfl
    rw [e]
    grind
theorem Good.mid_off {P L : List Pt} {v a b : Pt} (g : Good P v L a b) (hl : L.length = 2) : Off P (mid a v b) := by
  obtain ⟨M, hb⟩ := g.seen.head
  obtain ⟨N, ha⟩ := g.seen.last
  obtain ⟨m1, m2, m3⟩ := mid_in g.seen.turn
  intro e he ho
  have hr1 : cr v b a ≠ 0 := by rw [cr_rot2]; exact g.seen.turn
  have hr2 : cr b a v ≠ 0 := by rw [← cr_rot2]; exact g.seen.turn
  rcases (ces_cons hb ha e).1 ((g.rot.ces e).1 he) with rfl | h | rfl
  · have := On_cr ho
    have h2 := bc_mul (a := v) (v := b) (b := a) hr1 (mid a v b)
    rw [this] at h2
    rcases Rat.mul_eq_zero.1 h2 with k | k <;> grind
  · have hL : L = [b, a] := by
      rw [hb] at hl ha ⊢
      match M, hl with
      | [c], _ =>
        cases N with
        | nil => simp at ha
        | cons d N =>
          rw [List.cons_append, List.cons.injEq] at ha
          cases N with
          | nil => simp at ha; rw [ha.2]
          | cons _ _ => have := congrArg List.length ha.2; simp at this
    rw [hL] at h
    have h : e = (b, a) := by simpa [es] using h
    subst h
    have := On_cr ho
    have h2 := bc_mul (a := b) (v := a) (b := v) hr2 (mid a v b)
    rw [this] at h2
    rcases Rat.mul_eq_zero.1 h2 with k | k <;> grind
  · have := On_cr ho
    have h2 := bc_mul (a := a) (v := v) (b := b) g.seen.turn (mid a v b)
    rw [this] at h2
    rcases Rat.mul_eq_zero.1 h2 with k | k
    · grind
    · exact g.seen.turn k
/-- the winding number s of the inside, and the area's sign -/
structure Turns (P : List Pt) (s : Int) : Prop where
  one : s = 1 ∨ s = -1
  two : ∀ q, Off P q → cw P q = 0 ∨ cw P q = s
  some : ∃ y, Off P y ∧ cw P y = s
  area : 0 < (s : Rat) * ar P
theorem turns : ∀ (n : Nat) (P : List Pt), P.length = n → Simp P → ∃ s : Int, Turns P s := by
  intro n
  induction n using Nat.strongRecOn with
  | ind n ih =>
    intro P hn hP
    obtain ⟨x, y, hxy⟩ := some_side hP
    obtain ⟨v, L, a, b, g, _, _⟩ := ears n P hn hP x y hxy
    have hlen := g.rot.length
    simp only [List.length_cons] at hlen
    have h3 := hP.len
    obtain ⟨M, hb⟩ := g.seen.head
    obtain ⟨N, ha⟩ := g.seen.last
    have har : ar P = ar L + cr a v b := by rw [g.rot.ar, ar_cons hb ha]
    by_cases hl : L.length = 2
    · have hL0 : ar L = 0 := by
        match L, hl with
        | [c, d], _ =>
          show sh c d + (sh d c + 0) = 0
          unfold sh; grind
      refine ⟨sg (cr a v b), sg_cases g.seen.turn, fun q o => ?_, ⟨mid a v b, g.mid_off hl, ?_⟩, ?_⟩
      · by_cases hi : InT a v b q
        · exact Or.inr ((g.tri hl o).1 hi)
        · exact Or.inl ((g.tri hl o).2 hi)
      · obtain ⟨m1, m2, m3⟩ := mid_in g.seen.turn
        exact (g.tri hl (g.mid_off hl)).1 ⟨by grind, by grind, by grind⟩
      · rw [har, hL0]
        have := sg_mul g.seen.turn
        grind
    · have hl3 : 3 ≤ L.length := by omega
      obtain ⟨s, hs, hL, _, hA⟩ := ih L.length (by omega) L rfl (g.seen.cut g.empty hl3)
      obtain ⟨y, oy, ny, ey⟩ := g.across hP hl3
      have es : sg (cr a v b) = s := by
        rcases hL y (g.offL oy ny) with h | h
        · rw [g.outer ny, h] at ey
          rcases sg_cases g.seen.turn with k | k <;> omega
        · rw [← h, ← g.outer ny, ey]
      refine ⟨s, hs, fun q o => ?_, ⟨y, oy, by rw [ey, es]⟩, ?_⟩
      · by_cases hi : InT a v b q
        · obtain ⟨p1, p2, p3⟩ := g.within o hi
          exact Or.inr (by rw [g.inner hl3 p1 p2 p3, es])
        · rw [g.outer hi]
          exact hL q (g.offL o hi)
      · rw [har]
        have := sg_mul g.seen.turn
        rw [es] at this
        grind
theorem Turns.pos {P : List Pt} {s : Int} (h : Turns P s) : s = 1 ↔ 0 < ar P := by
  have ha := h.area
  have e1 : ((1 : Int) : Rat) = 1 := rfl
  have e2 : ((-1 : Int) : Rat) = -1 := rfl
  rcases h.one with rfl | rfl
  · rw [e1] at ha; exact ⟨fun _ => by grind, fun _ => rfl⟩
  · rw [e2] at ha; exact ⟨fun h => by omega, fun h => by exfalso; grind⟩
/-- crossing segments have a point in common -/
theorem cross_pt {a b c d : Pt} (h1 : (cr a b c < 0 ∧ 0 < cr a b d) ∨ (0 < cr a b c ∧ cr a b d < 0)) (h2 : (cr c d a < 0 ∧ 0 < cr c d b) ∨ (0 < cr c d a ∧ cr c d b < 0)) : ∃ x, On a b x ∧ On c d x := by
  have hx : ∃ x, On c d x ∧ cr a b x = 0 := by
    rcases h1 with ⟨k1, k2⟩ | ⟨k1, k2⟩
    · obtain ⟨x, x1, x2, _⟩ := ivt k1 (show 0 ≤ cr a b d by grind); exact ⟨x, x1, x2⟩
    · obtain ⟨x, x1, x2, _⟩ := ivt k2 (show 0 ≤ cr a b c by grind); exact ⟨x, On_symm x1, x2⟩
  have hy : ∃ y, On a b y ∧ cr c d y = 0 := by
    rcases h2 with ⟨k1, k2⟩ | ⟨k1, k2⟩
    · obtain ⟨x, x1, x2, _⟩ := ivt k1 (show 0 ≤ cr c d b by grind); exact ⟨x, x1, x2⟩
    · obtain ⟨x, x1, x2, _⟩ := ivt k2 (show 0 ≤ cr c d a by grind); exact ⟨x, On_symm x1, x2⟩
  obtain ⟨x, x1, x2⟩ := hx
  obtain ⟨y, y1, y2⟩ := hy
  have x3 := On_cr x1
  have y3 := On_cr y1
  have hne : cr a b d - cr a b c ≠ 0 := by rcases h1 with h | h <;> grind
  have e : x = y := by
    have d1 : (cr a b d - cr a b c) * (x.1 - y.1) = 0 := by unfold cr at *; grind
    have d2 : (cr a b d - cr a b c) * (x.2 - y.2) = 0 := by unfold cr at *; grind
    apply Prod.ext
    · rcases Rat.mul_eq_zero.1 d1 with k | k
      · exact absurd k hne
      · grind
    · rcases Rat.mul_eq_zero.1 d2 with k | k
      · exact absurd k hne
      · grind
  exact ⟨x, e ▸ y1, x1⟩
theorem meet_pt {a b c d : Pt} (h : MeetR a b c d) : ∃ x, On a b x ∧ On c d x := by
  rcases h with h | h | h | h | ⟨h, k⟩
  · exact ⟨c, h, On_left _ _⟩
  · exact ⟨d, h, On_right _ _⟩
  · exact ⟨a, On_left _ _, h⟩
  · exact ⟨b, On_right _ _, h⟩
  · exact cross_pt h k
theorem nodup_cz {P : List IP} : (czL P).Nodup ↔ P.Nodup := by
  unfold czL List.Nodup
  rw [List.pairwise_map]
  constructor
  · intro h; exact h.imp fun hab e => hab (by rw [e])
  · intro h; exact h.imp fun hab e => hab (cz_inj.1 e)
theorem nth_inj {P : List IP} (h : P.Nodup) {i j : Nat} (h0 : 0 < P.length) (e : nth P i = nth P j) : i % P.length = j % P.length := by
  have hi := Nat.mod_lt i h0
  have hj := Nat.mod_lt j h0
  have e1 : nth P i = P[i % P.length] := by unfold nth; simp [List.getD, hi]
  have e2 : nth P j = P[j % P.length] := by unfold nth; simp [List.getD, hj]
  rw [e1, e2] at e
  have hp := List.pairwise_iff_getElem.1 h
  rcases Nat.lt_trichotomy (i % P.length) (j % P.length) with k | k | k
  · exact absurd e (hp _ _ hi hj k)
  · exact k
  · exact absurd e.symm (hp _ _ hj hi k)
theorem simpI_of {P : List IP} (h3 : 3 ≤ P.length) (h : Simp (czL P)) : SimpI P := by
  have hP : P ≠ [] := by rintro rfl; simp at h3
  have hn := nodup_cz.1 h.nodup
  have h0 : 0 < P.length := by omega
  have inj : ∀ {i j}, nth P i = nth P j → i % P.length = j % P.length := fun e => nth_inj hn h0 e
  have side : ∀ i, i < P.length → (cz (nth P i), cz (nth P (i + 1))) ∈ ces (czL P) := fun i hi => (ces_get hP _).2 ⟨i, hi, rfl⟩
  have mem : ∀ i, cz (nth P i) ∈ czL P := fun i => List.mem_map_of_mem (nth_in hP i)
  intro i hi
  have m1 : (i + 1) % P.length = if i + 1 = P.length then 0 else i + 1 := by
    split
    · rename_i e; rw [e, Nat.mod_self]
    · exact Nat.mod_eq_of_lt (by omega)
  have m2 : (i + 2) % P.length = if i + 2 = P.length then 0 else if i + 1 = P.length then 1 else i + 2 := by
    split
    · rename_i e; rw [e, Nat.mod_self]
    · split
      · rename_i e; rw [show i + 2 = 1 + P.length by omega, Nat.add_mod_right]; exact Nat.mod_eq_of_lt (by omega)
      · exact Nat.mod_eq_of_lt (by omega)
  have m0 : i % P.length = i := Nat.mod_eq_of_lt hi
  refine ⟨fun e => ?_, fun hb => ?_, fun hb => ?_, fun k hik hk hx hm => ?_⟩
  · have := inj e
    rw [m0, m1] at this
    split at this <;> omega
  · rcases h.vert (side i hi) (mem (i + 2)) ((bet_On _ _ _).1 hb) with e | e
    · have := inj (cz_inj.1 e)
      rw [m0, m2] at this
      (repeat' split at this) <;> omega
    · have := inj (cz_inj.1 e)
      rw [m1, m2] at this
      (repeat' split at this) <;> omega
  · have hs : (cz (nth P (i + 1)), cz (nth P (i + 2))) ∈ ces (czL P) := by
      have := side ((i + 1) % P.length) (Nat.mod_lt _ h0)
      have e2 : nth P ((i + 1) % P.length + 1) = nth P (i + 2) := by unfold nth; rw [Nat.mod_add_mod]
      rw [nth_modl, e2] at this
      exact this
    rcases h.vert hs (mem i) ((bet_On _ _ _).1 hb) with e | e
    · have := inj (cz_inj.1 e)
      rw [m0, m1] at this
      split at this <;> omega
    · have := inj (cz_inj.1 e)
      rw [m0, m2] at this
      (repeat' split at this) <;> omega
  · obtain ⟨x, x1, x2⟩ := meet_pt ((meetI_R _ _ _ _).1 hm)
    have k0 : k % P.length = k := Nat.mod_eq_of_lt hk
    have k1 : (k + 1) % P.length = if k + 1 = P.length then 0 else k + 1 := by
      split
      · rename_i e; rw [e, Nat.mod_self]
      · exact Nat.mod_eq_of_lt (by omega)
    have hne : (cz (nth P i), cz (nth P (i + 1))) ≠ (cz (nth P k), cz (nth P (k + 1))) := fun e => by
      have := inj (cz_inj.1 (congrArg Prod.fst e))
      rw [m0, k0] at this
      omega
    obtain ⟨u, w⟩ := h.meet _ (side i hi) _ (side k hk) hne x x1 x2
    have fin : ∀ s t : Nat, x = cz (nth P s) → x = cz (nth P t) → s % P.length = t % P.length := fun s t h1 h2 => inj (cz_inj.1 (h1.symm.trans h2))
    rcases u with u | u <;> rcases w with w | w
    · have := fin i k u w; rw [m0, k0] at this; omega
    · have := fin i (k + 1) u w; rw [m0, k1] at this; split at this <;> omega
    · have := fin (i + 1) k u w; rw [m1, k0] at this; split at this <;> omega
    · have := fin (i + 1) (k + 1) u w; rw [m1, k1] at this; (repeat' split at this) <;> omega
theorem simpI_iff {P : List IP} (h3 : 3 ≤ P.length) : SimpI P ↔ Simp (czL P) := ⟨simp_cz h3, simpI_of h3⟩
end Geo
end
section
/- The normal form of a simple polygon, in plain terms. -/
namespace Pl
open Go Geo Pm
theorem czL_cons (a : IP) (l : List IP) : czL (a :: l) = cz a :: czL l := rfl
theorem czL_app (a b : List IP) : czL (a ++ b) = czL a ++ czL b := List.map_append ..
theorem czL_inj {a b : List IP} (h : czL a = czL b) : a = b := by
  unfold czL at h
  exact List.map_inj_right (fun x y e => cz_inj.1 e) |>.1 h
def cornFrom (P : List IP) (i m : Nat) : List IP := ((List.range' i m).filter (turnsAt P)).map (nth P)
theorem corn_crns {P : List IP} (h0 : 0 < P.length) : ∀ (m i : Nat), i + m = P.length →
    crns (cz (nth P (i + P.length - 1))) (czL (P.drop i)) (cz (nth P 0)) = czL (cornFrom P i m)
  | 0, i, h => by rw [List.drop_of_length_le (by omega)]; rfl
  | m + 1, i, h => by
    have hi : i < P.length := by omega
    have ih := corn_crns h0 m (i + 1) (by omega)
    rw [show i + 1 + P.length - 1 = i + P.length by omega, nth_per] at ih
    have eh : hd (czL (P.drop (i + 1))) (cz (nth P 0)) = cz (nth P (i + 1)) := by
      by_cases h1 : i + 1 < P.length
      · rw [drop_cons h1, nth_get h1]; rfl
      · rw [List.drop_of_length_le (by omega), show i + 1 = 0 + P.length by omega, nth_per]; rfl
    have er : cornFrom P i (m + 1) = (if turnsAt P i then [nth P i] else []) ++ cornFrom P (i + 1) m := by
      unfold cornFrom
      rw [List.range'_succ, List.filter_cons]
      split <;> simp
    rw [drop_cons hi, czL_cons, ← nth_get hi, crns, eh, er, ih, czL_app]
    have et : turnsAt P i = true ↔ ¬ cr (cz (nth P (i + P.length - 1))) (cz (nth P i)) (cz (nth P (i + 1))) = 0 := by
      rw [cr_nil]; unfold turnsAt; simp
    by_cases hc : cr (cz (nth P (i + P.length - 1))) (cz (nth P i)) (cz (nth P (i + 1))) = 0
    · rw [if_pos hc, if_neg (fun h => et.1 h hc)]; rfl
    · rw [if_neg hc, if_pos (et.2 hc)]; rfl
theorem lst_cz (p : IP) (l : List IP) : lst (cz p) (czL l) = cz (nth (p :: l) l.length) := by
  have : ∀ (l : List IP) (p : IP), lst (cz p) (czL l) = cz ((p :: l).getD l.length (0, 0)) := by
    intro l
    induction l with
    | nil => intro p; rfl
    | cons a l ih => intro p; exact ih a
  rw [this l p]
  unfold nth
  rw [Nat.mod_eq_of_lt (by simp)]
theorem corn_cnr {P : List IP} (hP : P ≠ []) : czL (corn P) = cnr (czL P) := by
  obtain ⟨p, l, rfl⟩ : ∃ p l, P = p :: l := by
    cases P with
    | nil => exact absurd rfl hP
    | cons p l => exact ⟨p, l, rfl⟩
  have h := corn_crns (P := p :: l) (by simp) (p :: l).length 0 (by simp)
  have e : corn (p :: l) = cornFrom (p :: l) 0 (p :: l).length := by unfold corn cornFrom; rw [List.range_eq_range']
  rw [e, ← h]
  show _ = crns (lst (cz p) (czL l)) (cz p :: czL l) (cz p)
  rw [lst_cz]
  have e2 : nth (p :: l) (0 + (p :: l).length - 1) = nth (p :: l) l.length := by simp
  rw [e2]
  rfl
theorem ar_cz {P : List IP} (hP : P ≠ []) : ar (czL P) = ((areaI P : Int) : Rat) := by
  obtain ⟨a, l, h, k⟩ := closed_get P hP
  have hl : (a :: (l ++ [a])).length = P.length + 1 := by
    have := congrArg List.length h
    rw [czL_len] at this
    simp at this ⊢; omega
  rw [h]
  show pa (a :: (l ++ [a])) = _
  rw [pa_get (a :: (l ++ [a])) (fun i => shoe (nth P i) (nth P (i + 1))) (fun i hi => ?_), hl, ← shoe_area]
  · rfl
  · rw [k i (by omega), k (i + 1) (by omega)]
    unfold sh cz shoe
    rw [Rat.intCast_sub, Rat.intCast_mul, Rat.intCast_mul]
theorem onP_cz {P : List IP} (hP : P ≠ []) {q : IP} : OnP (czL P) (cz q) ↔ OnI P q := by
  have := off_cz hP (q := q)
  rw [off_iff] at this
  constructor
  · intro h; exact Classical.not_not.1 fun hn => this.2 hn h
  · intro h; exact Classical.not_not.1 fun hn => this.1 hn h
/-- two lists that are one polygon but for where they begin -/
def RotI (P Q : List IP) : Prop := ∃ A B, P = A ++ B ∧ Q = B ++ A
theorem RotI.cz {P Q : List IP} (h : RotI P Q) : Rot (czL P) (czL Q) := by
  obtain ⟨A, B, rfl, rfl⟩ := h
  exact ⟨czL A, czL B, czL_app A B, czL_app B A⟩
theorem RotI.symm {P Q : List IP} (h : RotI P Q) : RotI Q P := by obtain ⟨A, B, h1, h2⟩ := h; exact ⟨B, A, h2, h1⟩
theorem RotI.len {P Q : List IP} (h : RotI P Q) : P.length = Q.length := by obtain ⟨A, B, rfl, rfl⟩ := h; simp; omega
theorem RotI.mem {P Q : List IP} (h : RotI P Q) (s : IP) : s ∈ P ↔ s ∈ Q := by obtain ⟨A, B, rfl, rfl⟩ := h; simp [or_comm]
theorem RotI.ne {P Q : List IP} (h : RotI P Q) (hP : P ≠ []) : Q ≠ [] := by
  intro e
  have := h.len
  rw [e] at this
  exact hP (List.length_eq_zero_iff.1 this)
theorem RotI.chk {P Q : List IP} (h : RotI P Q) : Geo.chk P = Geo.chk Q := by
  have hl := h.len
  have hi : InsI P ↔ InsI Q := ⟨fun k s hs => k s ((h.mem s).2 hs), fun k s hs => k s ((h.mem s).1 hs)⟩
  unfold Geo.chk
  by_cases h1 : 40 < P.length
  · rw [if_pos h1, if_pos (by omega)]
  rw [if_neg h1, if_neg (show ¬ 40 < Q.length by omega)]
  by_cases h2 : P.length < 3
  · rw [if_pos h2, if_pos (by omega)]
  rw [if_neg h2, if_neg (show ¬ Q.length < 3 by omega)]
  have hs : SimpI P ↔ SimpI Q := by
    rw [simpI_iff (by omega), simpI_iff (by omega)]
    exact ⟨h.cz.simp, h.cz.symm.simp⟩
  rw [show InsI P = InsI Q from propext hi, show SimpI P = SimpI Q from propext hs]
theorem RotI.area {P Q : List IP} (h : RotI P Q) (hP : P ≠ []) : areaI P = areaI Q := by
  have := h.cz.ar
  rw [ar_cz hP, ar_cz (h.ne hP)] at this
  exact Rat.intCast_inj.1 this
theorem RotI.wnd {P Q : List IP} (h : RotI P Q) (hP : P ≠ []) (q : IP) : wndI P q = wndI Q q := by
  rw [← cw_cz hP, ← cw_cz (h.ne hP), h.cz.cw]
theorem RotI.on {P Q : List IP} (h : RotI P Q) (hP : P ≠ []) (q : IP) : OnI P q ↔ OnI Q q := by
  rw [← onP_cz hP, ← onP_cz (h.ne hP), h.cz.onP]
theorem leastL_rotI {l : List IP} : RotI l (leastL l) := ⟨l.take (leastAt l), l.drop (leastAt l), (List.take_append_drop _ _).symm, rfl⟩
/-- the corners of a valid polygon are a valid polygon that is the same -/
structure Corn (P : List IP) : Prop where
  chk : Geo.chk (corn P) = 0
  len : (corn P).length ≤ P.length
  area : areaI (corn P) = areaI P
  wnd : ∀ q, wndI (corn P) q = wndI P q
  on : ∀ q, OnI (corn P) q ↔ OnI P q
  self : corn (corn P) = corn P
  nodup : (corn P).Nodup
  sub : (corn P).Sublist P
end Pl
end
section
/- The test of a polygon by computing; the examples are run with it. -/
namespace Pl
open Go Geo Pm
def betB (a b q : IP) : Bool := crI a b q == 0 && (decide (min a.1 b.1 ≤ q.1) && decide (q.1 ≤ max a.1 b.1)) && (decide (min a.2 b.2 ≤ q.2) && decide (q.2 ≤ max a.2 b.2))
theorem betB_iff (a b q : IP) : betB a b q = true ↔ BetI a b q := by unfold betB BetI; simp only [Bool.and_eq_true, beq_iff_eq, decide_eq_true_eq, and_assoc]
def divB (a b p q : IP) : Bool := (decide (crI a b p < 0) && decide (0 < crI a b q)) || (decide (0 < crI a b p) && decide (crI a b q < 0))
theorem divB_iff (a b p q : IP) : divB a b p q = true ↔ DivI a b p q := by unfold divB DivI; simp only [Bool.or_eq_true, Bool.and_eq_true, decide_eq_true_eq]
def meetB (a b c d : IP) : Bool := betB a b c || (betB a b d || (betB c d a || (betB c d b || (divB a b c d && divB c d a b))))
theorem meetB_iff (a b c d : IP) : meetB a b c d = true ↔ MeetI a b c d := by unfold meetB MeetI; simp only [Bool.or_eq_true, Bool.and_eq_true, betB_iff, divB_iff]
def simpB (P : List IP) : Bool := (List.range P.length).all fun i => !(decide (nth P i = nth P (i + 1))) && (!betB (nth P i) (nth P (i + 1)) (nth P (i + 2)) && (!betB (nth P (i + 1)) (nth P (i + 2)) (nth P i) &&
  (List.range P.length).all fun k => !Nat.ble (i + 2) k || ((Nat.beq i 0 && Nat.beq k (P.length - 1)) || !meetB (nth P i) (nth P (i + 1)) (nth P k) (nth P (k + 1)))))
theorem simpB_iff (P : List IP) : simpB P = true ↔ SimpI P := by
  unfold simpB SimpI
  simp only [List.all_eq_true, List.mem_range, Bool.and_eq_true, Bool.not_eq_true', decide_eq_false_iff_not, ← Bool.not_eq_true, betB_iff, Bool.or_eq_true, meetB_iff, Nat.beq_eq, Nat.ble_eq]
  refine forall_congr' fun i => forall_congr' fun hi => ?_
  refine and_congr (by simp) (and_congr Iff.rfl (and_congr Iff.rfl ?_))
  constructor
  · intro h k h1 h2 h3
    rcases h k h2 with h4 | h4 | h4
    · exact absurd h1 h4
    · exact absurd h4 h3
    · exact h4
  · intro h k h2
    by_cases h1 : i + 2 ≤ k
    · by_cases h3 : i = 0 ∧ k = P.length - 1
      · exact Or.inr (Or.inl h3)
      · exact Or.inr (Or.inr (h k h1 h2 h3))
    · exact Or.inl h1
def insB (s : IP) : Bool := (decide (-1048576 ≤ s.1) && decide (s.1 ≤ 1048576)) && (decide (-1048576 ≤ s.2) && decide (s.2 ≤ 1048576))
theorem insB_iff (s : IP) : insB s = true ↔ insI s.1 ∧ insI s.2 := by unfold insB insI; simp only [Bool.and_eq_true, decide_eq_true_eq]
def chkB (P : List IP) : Int := cond (Nat.blt 40 P.length) 5 (cond (Nat.blt P.length 3) 11 (cond (P.all insB) (cond (simpB P) 0 11) 3))
theorem chkB_eq (P : List IP) : chkB P = chk P := by
  unfold chkB chk
  by_cases h1 : 40 < P.length
  · rw [if_pos h1, show Nat.blt 40 P.length = true from of_eq_true (by rw [Nat.blt_eq]; simp [h1])]; rfl
  rw [if_neg h1, show Nat.blt 40 P.length = false from Bool.eq_false_iff.2 (fun h => h1 (Nat.blt_eq ▸ h))]
  by_cases h2 : P.length < 3
  · rw [if_pos h2, show Nat.blt P.length 3 = true from of_eq_true (by rw [Nat.blt_eq]; simp [h2])]; rfl
  rw [if_neg h2, show Nat.blt P.length 3 = false from Bool.eq_false_iff.2 (fun h => h2 (Nat.blt_eq ▸ h))]
  have hin : P.all insB = true ↔ InsI P := by
    unfold InsI
    rw [List.all_eq_true]
    exact forall_congr' fun s => forall_congr' fun _ => insB_iff s
  by_cases h3 : InsI P
  · rw [if_neg (fun h => h h3), hin.2 h3]
    by_cases h4 : SimpI P
    · rw [if_pos h4, (simpB_iff P).2 h4]; rfl
    · rw [if_neg h4, show simpB P = false from Bool.eq_false_iff.2 (fun h => h4 ((simpB_iff P).1 h))]; rfl
  · rw [if_pos h3, show P.all insB = false from Bool.eq_false_iff.2 (fun h => h3 (hin.1 h))]; rfl
/-- calls that are known: the test of a polygon -/
def O11 : CallF := fun f as => cond (Nat.beq f 13 || Nat.beq f 67) (match as with
  | [.val t x] => match castT t (.sl t0) x with
    | some P => some [.val tI (chkB P)]
    | none => none
  | _ => none) none
theorem O11_less : Less O11 (limC G) := by
  intro f as r h
  unfold O11 at h
  cases hb : (Nat.beq f 13 || Nat.beq f 67) with
  | false => rw [hb] at h; cases h
  | true =>
    rw [hb] at h
    simp only [cond_true] at h
    split at h
    · rename_i t x
      split at h
      · rename_i P hc
        obtain ⟨e, hx⟩ := castT_some hc
        subst e
        subst hx
        injection h with h
        subst h
        rw [chkB_eq]
        rw [Bool.or_eq_true] at hb
        rcases hb with hb | hb
        · rw [Nat.eq_of_beq_eq_true hb]; exact check_cg _
        · rw [Nat.eq_of_beq_eq_true hb]; exact rcheck_cg _
      · cases h
    · cases h
theorem run11 {f k : Nat} {as : List D} {r : R} (h : evO G O11 k f as = some r) : CG f as = some r := evO_lim O11_less k f as r h
end Pl
end
section
/- Chapter 13: where a point lies in respect of a triangle. -/
namespace Pl
open Go Geo Pm
theorem tcross_ok {a b c : IP} (ha : insP a) (hb : insP b) (hc : insP c) : callT CG [.v tI] 27 [.val t0 a, .val t0 b, .val t0 c] = some (crI a b c) :=
  callT_of (triangle_cross_st a b c (by rw [cross_w ha hb hc])) rfl
theorem covers_ok {a b c q : IP} (ha : insP a) (hb : insP b) (hc : insP c) (hq : insP q) : callT CG [.v .bool] 28 [.val t0 a, .val t0 b, .val t0 c, .val t0 q] = some (decide (0 ≤ crI a b q ∧ 0 ≤ crI b c q ∧ 0 ≤ crI c a q)) := by
  refine callT_of (triangle_covers_st a b c q (r := [.val .bool (decide (0 ≤ crI a b q ∧ 0 ≤ crI b c q ∧ 0 ≤ crI c a q))]) ?_) rfl
  refine bnd (tcross_ok ha hb hq) ?_
  by_cases h1 : crI a b q ≥ 0
  · refine pos (dt h1) (bnd (tcross_ok hb hc hq) ?_)
    by_cases h2 : crI b c q ≥ 0
    · refine pos (dt h2) (bnd (tcross_ok hc ha hq) ?_)
      rw [show decide (crI c a q ≥ (0 : Int)) = decide (0 ≤ crI a b q ∧ 0 ≤ crI b c q ∧ 0 ≤ crI c a q) from decide_eq_decide.2 ⟨fun h => ⟨h1, h2, h⟩, fun h => h.2.2⟩]
    · refine neg (df h2) ?_; rw [decide_eq_false (fun h => h2 h.2.1)]
  · refine neg (df h1) ?_; rw [decide_eq_false (fun h => h1 h.1)]
instance (s : IP) : Decidable (insP s) := inferInstanceAs (Decidable (_ ∧ _))
theorem tnear_ok (s : IP) : callT CG [.v .bool] 29 [.val t0 s] = some (decide (insP s)) := by
  refine callT_of (triangle_near_st s (r := [.val .bool (decide (insP s))]) ?_) rfl
  have no : ¬ insP s → some [D.val .bool false] = some [D.val .bool (decide (insP s))] := fun h => by rw [decide_eq_false h]
  unfold insP insI at *
  by_cases h1 : s.1 ≥ -1048576
  · refine pos (dt h1) ?_
    by_cases h2 : s.1 ≤ 1048576
    · refine pos (dt h2) ?_
      by_cases h3 : s.2 ≥ -1048576
      · refine pos (dt h3) ?_
        rw [show decide (s.2 ≤ (1048576 : Int)) = decide (((-1048576 ≤ s.1 ∧ s.1 ≤ 1048576) ∧ (-1048576 ≤ s.2 ∧ s.2 ≤ 1048576))) from decide_eq_decide.2 (by omega)]
        rfl
      · exact neg (df h3) (no (by omega))
    · exact neg (df h2) (no (by omega))
  · exact neg (df h1) (no (by omega))
/-- 1, 0 or -1: within, on the boundary, outside -/
def hld (a b c q : IP) : Int := if crI a b c = 0 then -1 else min (min (min 1 (sgI (crI a b c) * sgI (crI a b q))) (sgI (crI a b c) * sgI (crI b c q))) (sgI (crI a b c) * sgI (crI c a q))
theorem sgI_cases (n : Int) : (0 < n ∧ sgI n = 1) ∨ (n < 0 ∧ sgI n = -1) ∨ (n = 0 ∧ sgI n = 0) := by unfold sgI; split <;> (try split) <;> omega
def three (t : List IP) (q : IP) : Prop := t.length = 3 ∧ insP (t.getD 0 (0, 0)) ∧ insP (t.getD 1 (0, 0)) ∧ insP (t.getD 2 (0, 0)) ∧ insP q
instance (t : List IP) (q : IP) : Decidable (three t q) := inferInstanceAs (Decidable (_ ∧ _))
def holdM (t : List IP) (q : IP) : Int := if three t q then hld (t.getD 0 (0, 0)) (t.getD 1 (0, 0)) (t.getD 2 (0, 0)) q else -1
theorem hld_pos {a b c q : IP} (h : 0 < crI a b c) : hld a b c q = if 0 ≤ crI a b q ∧ 0 ≤ crI b c q ∧ 0 ≤ crI c a q then (if crI a b q = 0 ∨ crI b c q = 0 ∨ crI c a q = 0 then 0 else 1) else -1 := by
  unfold hld
  rw [if_neg (by omega), show sgI (crI a b c) = 1 from if_pos h]
  rcases sgI_cases (crI a b q) with ⟨h1, e1⟩ | ⟨h1, e1⟩ | ⟨h1, e1⟩ <;> rcases sgI_cases (crI b c q) with ⟨h2, e2⟩ | ⟨h2, e2⟩ | ⟨h2, e2⟩ <;> rcases sgI_cases (crI c a q) with ⟨h3, e3⟩ | ⟨h3, e3⟩ | ⟨h3, e3⟩ <;> rw [e1, e2, e3] <;> (split <;> (try split)) <;> omega
theorem hld_swap (a b c q : IP) : hld a c b q = hld a b c q := by
  unfold hld
  have e0 : crI a c b = - crI a b c := by unfold crI; grind
  have e1 : crI a c q = - crI c a q := by unfold crI; grind
  have e2 : crI c b q = - crI b c q := by unfold crI; grind
  have e3 : crI b a q = - crI a b q := by unfold crI; grind
  have hs : ∀ n, sgI (-n) = - sgI n := fun n => by unfold sgI; (repeat' split) <;> omega
  rw [e0, e1, e2, e3]
  by_cases h : crI a b c = 0
  · rw [if_pos (by omega), if_pos h]
  · rw [if_neg (by omega), if_neg h, hs, hs, hs, hs, Int.neg_mul_neg, Int.neg_mul_neg, Int.neg_mul_neg]
    omega
theorem hld_rot (a b c q : IP) : hld b c a q = hld a b c q := by
  unfold hld
  have e0 : crI b c a = crI a b c := by unfold crI; grind
  rw [e0]
  by_cases h : crI a b c = 0
  · rw [if_pos h, if_pos h]
  · rw [if_neg h, if_neg h]
    omega
theorem holds_fin {a b c q : IP} (ha : insP a) (hb : insP b) (hc : insP c) (hq : insP q) (h : 0 < crI a b c) : ((callT CG [.v .bool] 28 [.val t0 a, .val t0 b, .val t0 c, .val t0 q]).bind fun (r10 : Bool) => (if (!r10) = true then (some [.val tI ((-1) : Int)]) else ((callT CG [.v tI] 27 [.val t0 a, .val t0 b, .val t0 q]).bind fun (r11 : Int) => (if (r11 == (0 : Int)) = true then (some [.val tI (0 : Int)]) else ((callT CG [.v tI] 27 [.val t0 b, .val t0 c, .val t0 q]).bind fun (r12 : Int) => (if (r12 == (0 : Int)) = true then (some [.val tI (0 : Int)]) else ((callT CG [.v tI] 27 [.val t0 c, .val t0 a, .val t0 q]).bind fun (r13 : Int) => (if (r13 == (0 : Int)) = true then (some [.val tI (0 : Int)]) else (some [.val tI (1 : Int)]))))))))) = some [D.val tI (hld a b c q)] := by
  rw [hld_pos h]
  refine bnd (covers_ok ha hb hc hq) ?_
  by_cases hcv : 0 ≤ crI a b q ∧ 0 ≤ crI b c q ∧ 0 ≤ crI c a q
  · rw [if_pos hcv]
    refine neg (by simp [hcv]) (bnd (tcross_ok ha hb hq) ?_)
    by_cases h1 : crI a b q = 0
    · rw [if_pos (Or.inl h1)]; exact pos (by simp [h1]) rfl
    refine neg (by simp [h1]) (bnd (tcross_ok hb hc hq) ?_)
    by_cases h2 : crI b c q = 0
    · rw [if_pos (Or.inr (Or.inl h2))]; exact pos (by simp [h2]) rfl
    refine neg (by simp [h2]) (bnd (tcross_ok hc ha hq) ?_)
    by_cases h3 : crI c a q = 0
    · rw [if_pos (Or.inr (Or.inr h3))]; exact pos (by simp [h3]) rfl
    · refine neg (by simp [h3]) ?_; rw [if_neg (show ¬ (crI a b q = 0 ∨ crI b c q = 0 ∨ crI c a q = 0) by omega)]
  · rw [if_neg hcv]
    exact pos (by rw [decide_eq_false hcv]; rfl) rfl
theorem holds_st (t : List IP) (q : IP) : callT CG [.v tI] 2 [.val (.sl t0) t, .val t0 q] = some (holdM t q) := by
  refine callT_of (triangle_Holds_st t q (r := [.val tI (holdM t q)]) ?_) rfl
  have no : ¬ three t q → some [D.val tI (-1)] = some [D.val tI (holdM t q)] := fun h => by rw [show holdM t q = -1 from if_neg h]
  rw [show Int.toNat (0 : Int) = 0 from rfl, show Int.toNat (1 : Int) = 1 from rfl, show Int.toNat (2 : Int) = 2 from rfl]
  by_cases hl : t.length = 3
  · refine neg (by simp [hl]) (pos (by omega) (bnd (tnear_ok _) ?_))
    by_cases h0 : insP (t.getD 0 (0, 0))
    · refine neg (by rw [decide_eq_true h0]; simp) (pos (by omega) (bnd (tnear_ok _) ?_))
      by_cases h1 : insP (t.getD 1 (0, 0))
      · refine neg (by rw [decide_eq_true h1]; simp) (pos (by omega) (bnd (tnear_ok _) ?_))
        by_cases h2 : insP (t.getD 2 (0, 0))
        · refine neg (by rw [decide_eq_true h2]; simp) (bnd (tnear_ok _) ?_)
          by_cases hq : insP q
          · refine neg (by rw [decide_eq_true hq]; simp) (pos (by omega) (pos (by omega) (pos (by omega) (bnd (tcross_ok h0 h1 h2) ?_))))
            rw [show holdM t q = hld (t.getD 0 (0, 0)) (t.getD 1 (0, 0)) (t.getD 2 (0, 0)) q from if_pos ⟨hl, h0, h1, h2, hq⟩]
            generalize t.getD 0 (0, 0) = a at *
            generalize t.getD 1 (0, 0) = b at *
            generalize t.getD 2 (0, 0) = c at *
            by_cases hz : crI a b c = 0
            · rw [show hld a b c q = -1 from if_pos hz]; exact pos (by simp [hz]) rfl
            refine neg (by simp [hz]) ?_
            by_cases hn : crI a b c < 0
            · refine pos (dt hn) ?_
              rw [← hld_swap]
              exact holds_fin h0 h2 h1 hq (by have : crI a c b = - crI a b c := by unfold crI; grind
                                              omega)
            · exact neg (df hn) (holds_fin h0 h1 h2 hq (by omega))
          · exact pos (by rw [decide_eq_false hq]; rfl) (no fun h => hq h.2.2.2.2)
        · exact pos (by rw [decide_eq_false h2]; rfl) (no fun h => h2 h.2.2.2.1)
      · exact pos (by rw [decide_eq_false h1]; rfl) (no fun h => h1 h.2.2.1)
    · exact pos (by rw [decide_eq_false h0]; rfl) (no fun h => h0 h.2.1)
  · exact pos (by simp; omega) (no fun h => hl h.1)
def prop3 (t : List IP) : Prop := (t.length = 3 ∧ insP (t.getD 0 (0, 0)) ∧ insP (t.getD 1 (0, 0)) ∧ insP (t.getD 2 (0, 0))) ∧ crI (t.getD 0 (0, 0)) (t.getD 1 (0, 0)) (t.getD 2 (0, 0)) ≠ 0
instance (t : List IP) : Decidable (prop3 t) := inferInstanceAs (Decidable (_ ∧ _))
theorem sg_w (x y : Int) : wr .i64 (sgI x * sgI y) = sgI x * sgI y ∧ -1 ≤ sgI x * sgI y ∧ sgI x * sgI y ≤ 1 := by
  rcases sgI_cases x with ⟨_, e1⟩ | ⟨_, e1⟩ | ⟨_, e1⟩ <;> rcases sgI_cases y with ⟨_, e2⟩ | ⟨_, e2⟩ | ⟨_, e2⟩ <;> rw [e1, e2] <;> exact ⟨wr64 (by omega) (by omega), by omega, by omega⟩
end Pl
end
section
/- A triangle: its sides, its inside. -/
namespace Geo
theorem ces3 (a v b : Pt) (e : Pt × Pt) : e ∈ ces [a, v, b] ↔ e = (a, v) ∨ e = (v, b) ∨ e = (b, a) := by
  show e ∈ [(a, v), (v, b), (b, a)] ↔ _
  simp
/-- a point of a side, by its coordinates -/
theorem on_side {a v b q : Pt} (h : cr a v b ≠ 0) : On a v q ↔ InT a v b q ∧ bc a v b q = 0 := by
  have hr1 : cr v b a ≠ 0 := by rw [cr_rot2]; exact h
  have hr2 : cr b a v ≠ 0 := by rw [← cr_rot2]; exact h
  constructor
  · rintro ⟨t, t0, t1, e⟩
    have c1 := bc_aff v b a e
    have c2 := bc_aff b a v e
    have c3 := bc_aff a v b e
    rw [bc_b hr1, bc_a] at c1
    rw [bc_v, bc_b hr2] at c2
    rw [bc_a, bc_v] at c3
    exact ⟨⟨by grind, by grind, by grind⟩, by grind⟩
  · rintro ⟨⟨h1, h2, _⟩, h3⟩
    have hs := bc_sum h q
    have hr := bc_rec h q
    refine ⟨bc b a v q, h2, by grind, ?_⟩
    refine hr.trans ?_
    apply Prod.ext <;> simp only <;> grind
theorem InT_rot {a v b q : Pt} : InT v b a q ↔ InT a v b q := by unfold InT; constructor <;> rintro ⟨h1, h2, h3⟩ <;> exact ⟨by assumption, by assumption, by assumption⟩
theorem tri_on {a v b q : Pt} (h : cr a v b ≠ 0) : OnP [a, v, b] q ↔ InT a v b q ∧ (bc v b a q = 0 ∨ bc b a v q = 0 ∨ bc a v b q = 0) := by
  have hr1 : cr v b a ≠ 0 := by rw [cr_rot2]; exact h
  have hr2 : cr b a v ≠ 0 := by rw [← cr_rot2]; exact h
  constructor
  · rintro ⟨e, he, ho⟩
    rcases (ces3 a v b e).1 he with rfl | rfl | rfl
    · obtain ⟨k1, k2⟩ := (on_side h).1 ho; exact ⟨k1, Or.inr (Or.inr k2)⟩
    · obtain ⟨k1, k2⟩ := (on_side hr1).1 ho; exact ⟨InT_rot.1 k1, Or.inl k2⟩
    · obtain ⟨k1, k2⟩ := (on_side hr2).1 ho; exact ⟨InT_rot.1 (InT_rot.1 k1), Or.inr (Or.inl k2)⟩
  · rintro ⟨hi, k | k | k⟩
    · exact ⟨(v, b), (ces3 a v b _).2 (Or.inr (Or.inl rfl)), (on_side hr1).2 ⟨InT_rot.2 hi, k⟩⟩
    · exact ⟨(b, a), (ces3 a v b _).2 (Or.inr (Or.inr rfl)), (on_side hr2).2 ⟨InT_rot.2 (InT_rot.2 hi), k⟩⟩
    · exact ⟨(a, v), (ces3 a v b _).2 (Or.inl rfl), (on_side h).2 ⟨hi, k⟩⟩
/-- strictly inside -/
def InS (a v b q : Pt) : Prop := 0 < bc v b a q ∧ 0 < bc b a v q ∧ 0 < bc a v b q
theorem tri_cases {a v b q : Pt} (h : cr a v b ≠ 0) : (InS a v b q ∧ ¬ OnP [a, v, b] q ∧ cw [a, v, b] q = sg (cr a v b)) ∨ (InT a v b q ∧ ¬ InS a v b q ∧ OnP [a, v, b] q) ∨ (¬ InT a v b q ∧ ¬ OnP [a, v, b] q ∧ cw [a, v, b] q = 0) := by
  by_cases hi : InT a v b q
  · by_cases hs : InS a v b q
    · refine Or.inl ⟨hs, fun ho => ?_, triIn h hs.1 hs.2.1 hs.2.2⟩
      obtain ⟨h1, h2, h3⟩ := hs
      rcases ((tri_on h).1 ho).2 with k | k | k <;> grind
    · refine Or.inr (Or.inl ⟨hi, hs, (tri_on h).2 ⟨hi, ?_⟩⟩)
      obtain ⟨h1, h2, h3⟩ := hi
      by_cases k1 : bc v b a q = 0
      · exact Or.inl k1
      · by_cases k2 : bc b a v q = 0
        · exact Or.inr (Or.inl k2)
        · refine Or.inr (Or.inr (Classical.byContradiction fun k3 => hs ⟨by grind, by grind, by grind⟩))
  · exact Or.inr (Or.inr ⟨hi, fun ho => hi ((tri_on h).1 ho).1, triOut h hi⟩)
end Geo
end
section
/- The normal form: one for all beginnings and directions; its own normal form. -/
namespace Geo
end Geo
namespace Pl
open Go Geo Pm
theorem RotI.trans {P Q R : List IP} (h : RotI P Q) (k : RotI Q R) : RotI P R := by
  obtain ⟨A, B, rfl, rfl⟩ := h
  obtain ⟨C, D, e, rfl⟩ := k
  rcases List.append_eq_append_iff.1 e with ⟨E, h1, h2⟩ | ⟨E, h1, h2⟩
  · subst h1; subst h2; exact ⟨E, D ++ B, by simp, by simp⟩
  · subst h1; subst h2; exact ⟨A ++ C, E, by simp, by simp⟩
theorem RotI.same {P Q : List IP} (h : RotI P Q) (hn : P.Nodup) (he : P.getD 0 (0, 0) = Q.getD 0 (0, 0)) : P = Q := by
  obtain ⟨A, B, rfl, rfl⟩ := h
  cases A with
  | nil => simp
  | cons a A =>
    cases B with
    | nil => simp
    | cons b B =>
      exfalso
      have he : a = b := he
      subst he
      rw [List.cons_append, List.nodup_cons] at hn
      exact hn.1 (by simp)
theorem leastL_head {l : List IP} (h : l ≠ []) : (leastL l).getD 0 (0, 0) = l.getD (leastAt l) (0, 0) := by
  have hk := (leastAt_spec h).1
  unfold leastL
  rw [drop_cons hk, getD_eq hk]
  rfl
theorem RotI.least {P Q : List IP} (h : RotI P Q) (hn : P.Nodup) : leastL P = leastL Q := by
  by_cases hP : P = []
  · subst hP
    have : Q = [] := List.length_eq_zero_iff.1 h.len.symm
    rw [this]
  have hQ := h.ne hP
  have hr : RotI (leastL P) (leastL Q) := (leastL_rotI.symm.trans h).trans leastL_rotI
  refine hr.same ?_ ?_
  · obtain ⟨A, B, e1, e2⟩ := leastL_rotI (l := P)
    rw [e2]
    rw [e1] at hn
    rw [List.nodup_append] at hn ⊢
    exact ⟨hn.2.1, hn.1, fun a ha b hb e => hn.2.2 b hb a ha e.symm⟩
  · rw [leastL_head hP, leastL_head hQ]
    obtain ⟨a1, a2, _⟩ := leastAt_spec hP
    obtain ⟨b1, b2, _⟩ := leastAt_spec hQ
    exact lexP_eq (b2 _ ((h.mem _).1 (getD_in a1 (0, 0)))) (a2 _ ((h.mem _).2 (getD_in b1 (0, 0))))
theorem corn_self_rot {P Q : List IP} (h : RotI P Q) (hP : P ≠ []) (hs : corn P = P) : corn Q = Q := by
  apply czL_inj
  rw [corn_cnr (h.ne hP)]
  exact cnr_same_rot h.cz (by rw [← corn_cnr hP, hs])
theorem area_ne {P : List IP} (h : chk P = 0) : areaI P ≠ 0 := by
  obtain ⟨h3, h40, hb, hP, hs⟩ := chk_in h
  obtain ⟨s, t⟩ := turns _ (czL P) rfl (simp_cz h3 hs)
  have ha := t.area
  rw [ar_cz hP] at ha
  intro e
  rw [e] at ha
  have e0 : ((0 : Int) : Rat) = 0 := rfl
  rw [e0, Rat.mul_zero] at ha
  exact absurd ha (by grind)
structure Ccw (P C : List IP) : Prop where
  chk : Geo.chk C = 0
  area : areaI C = if areaI P < 0 then -areaI P else areaI P
  pos : 0 < areaI C
  self : corn C = C
  nodup : C.Nodup
  mem : ∀ s ∈ C, s ∈ P
  len : C.length ≤ P.length
theorem RotI.nodup {P Q : List IP} (h : RotI P Q) (hn : P.Nodup) : Q.Nodup := by
  obtain ⟨A, B, rfl, rfl⟩ := h
  rw [List.nodup_append] at hn ⊢
  exact ⟨hn.2.1, hn.1, fun a ha b hb e => hn.2.2 b hb a ha e.symm⟩
theorem Ccw.rot {P C D : List IP} (h : Ccw P C) (k : RotI C D) : Ccw P D := by
  have hne := (chk_in h.chk).2.2.2.1
  exact ⟨by rw [← k.chk]; exact h.chk, by rw [← k.area hne]; exact h.area, by rw [← k.area hne]; exact h.pos, corn_self_rot k hne h.self, k.nodup h.nodup, fun s hs => h.mem s ((k.mem s).2 hs), by rw [← k.len]; exact h.len⟩
end Pl
end
section
/- Chapter 13: a triangle as a polygon. -/
namespace Pl
open Go Geo Pm
theorem nth3 (a b c : IP) : nth [a, b, c] 0 = a ∧ nth [a, b, c] 1 = b ∧ nth [a, b, c] 2 = c ∧ nth [a, b, c] 3 = a ∧ nth [a, b, c] 4 = b := by simp [nth]
theorem tri_simp {a b c : IP} (h : crI a b c ≠ 0) : SimpI [a, b, c] := by
  have e1 : crI b c a = crI a b c := by unfold crI; grind
  have e2 : crI c a b = crI a b c := by unfold crI; grind
  have ne : ∀ x y z : IP, crI x y z ≠ 0 → x ≠ y := fun x y z hz e => hz (by subst e; unfold crI; grind)
  have hr : ∀ x y z : IP, crI x y z ≠ 0 → x ≠ y ∧ ¬ BetI x y z ∧ ¬ BetI y z x := fun x y z hz => ⟨ne x y z hz, fun hb => hz hb.1, fun hb => hz (by
    have := hb.1
    have e : crI y z x = crI x y z := by unfold crI; grind
    rw [← e]; exact this)⟩
  intro i hi
  have key : nth [a, b, c] i ≠ nth [a, b, c] (i + 1) ∧ ¬ BetI (nth [a, b, c] i) (nth [a, b, c] (i + 1)) (nth [a, b, c] (i + 2)) ∧ ¬ BetI (nth [a, b, c] (i + 1)) (nth [a, b, c] (i + 2)) (nth [a, b, c] i) := by
    obtain ⟨n0, n1, n2, n3, n4⟩ := nth3 a b c
    match i, hi with
    | 0, _ => rw [n0, show nth [a, b, c] (0 + 1) = b from n1, show nth [a, b, c] (0 + 2) = c from n2]; exact hr a b c h
    | 1, _ => rw [n1, show nth [a, b, c] (1 + 1) = c from n2, show nth [a, b, c] (1 + 2) = a from n3]; exact hr b c a (by rw [e1]; exact h)
    | 2, _ => rw [n2, show nth [a, b, c] (2 + 1) = a from n3, show nth [a, b, c] (2 + 2) = b from n4]; exact hr c a b (by rw [e2]; exact h)
  refine ⟨key.1, key.2.1, key.2.2, fun k hk1 hk2 hk3 => ?_⟩
  simp only [List.length_cons, List.length_nil] at hk2 hk3
  exact absurd ⟨by omega, by omega⟩ hk3
theorem tri_chk {a b c : IP} (ha : insP a) (hb : insP b) (hc : insP c) (h : crI a b c ≠ 0) : chk [a, b, c] = 0 := by
  refine chk_ok.2 ⟨by simp, by simp, fun s hs => ?_, tri_simp h⟩
  simp only [List.mem_cons, List.not_mem_nil, or_false] at hs
  rcases hs with rfl | rfl | rfl
  · exact ha
  · exact hb
  · exact hc
theorem tri_area (a b c : IP) : areaI [a, b, c] = crI a b c := by
  rw [← shoe_area]
  show ((0 + shoe (nth [a, b, c] 0) (nth [a, b, c] 1)) + shoe (nth [a, b, c] 1) (nth [a, b, c] 2)) + shoe (nth [a, b, c] 2) (nth [a, b, c] 3) = _
  obtain ⟨n0, n1, n2, n3, _⟩ := nth3 a b c
  rw [n0, n1, n2, n3]
  unfold shoe crI; grind
theorem tri_turn {a b c : IP} (h : chk [a, b, c] = 0) : crI a b c ≠ 0 := by
  have := area_ne h
  rwa [tri_area] at this
theorem czL3 (a b c : IP) : czL [a, b, c] = [cz a, cz b, cz c] := rfl
theorem sg_cz (a b c : IP) : sg (cr (cz a) (cz b) (cz c)) = sgI (crI a b c) := by
  unfold sg sgI
  by_cases h1 : 0 < crI a b c
  · rw [if_pos ((cr_pos a b c).2 h1), if_pos h1]
  · rw [if_neg (fun h => h1 ((cr_pos a b c).1 h)), if_neg h1]
    by_cases h2 : crI a b c < 0
    · rw [if_pos ((cr_neg a b c).2 h2), if_pos h2]
    · rw [if_neg (fun h => h2 ((cr_neg a b c).1 h)), if_neg h2]
/-- a coordinate's sign -/
theorem bc_sg {a b c q : IP} (h : crI a b c ≠ 0) : (0 < bc (cz a) (cz b) (cz c) (cz q) ↔ sgI (crI a b c) * sgI (crI a b q) = 1) ∧ (0 ≤ bc (cz a) (cz b) (cz c) (cz q) ↔ 0 ≤ sgI (crI a b c) * sgI (crI a b q)) := by
  have hz : cr (cz a) (cz b) (cz c) ≠ 0 := fun e => h ((cr_nil a b c).1 e)
  have hm := bc_mul hz (cz q)
  have p1 := cr_pos a b q
  have p2 := cr_neg a b q
  rcases sgI_cases (crI a b c) with ⟨h1, e1⟩ | ⟨h1, e1⟩ | ⟨h1, e1⟩
  · have hp := (cr_pos a b c).2 h1
    obtain ⟨b1, b2⟩ := bc_pos (t := cz q) hp
    rw [b1, b2, e1, p1]
    have n2 : 0 ≤ cr (cz a) (cz b) (cz q) ↔ 0 ≤ crI a b q := by
      constructor
      · intro k; exact Int.not_lt.1 fun k2 => by have := p2.2 k2; grind
      · intro k; by_cases k2 : cr (cz a) (cz b) (cz q) < 0
        · have := p2.1 k2; omega
        · grind
    rw [n2]
    rcases sgI_cases (crI a b q) with ⟨k, e⟩ | ⟨k, e⟩ | ⟨k, e⟩ <;> rw [e] <;> omega
  · have hn := (cr_neg a b c).2 h1
    have f1 : 0 < bc (cz a) (cz b) (cz c) (cz q) ↔ cr (cz a) (cz b) (cz q) < 0 := by
      constructor
      · intro k
        have := Rat.mul_pos k (show 0 < - cr (cz a) (cz b) (cz c) by grind)
        grind
      · intro k
        by_cases k2 : 0 < bc (cz a) (cz b) (cz c) (cz q)
        · exact k2
        · have := Rat.mul_nonneg (show 0 ≤ - bc (cz a) (cz b) (cz c) (cz q) by grind) (show 0 ≤ - cr (cz a) (cz b) (cz c) by grind)
          grind
    have f2 : 0 ≤ bc (cz a) (cz b) (cz c) (cz q) ↔ ¬ 0 < cr (cz a) (cz b) (cz q) := by
      constructor
      · intro k k2
        have := Rat.mul_nonneg k (show 0 ≤ - cr (cz a) (cz b) (cz c) by grind)
        grind
      · intro k
        by_cases k2 : 0 ≤ bc (cz a) (cz b) (cz c) (cz q)
        · exact k2
        · have := Rat.mul_pos (show 0 < - bc (cz a) (cz b) (cz c) (cz q) by grind) (show 0 < - cr (cz a) (cz b) (cz c) by grind)
          grind
    rw [f1, f2, e1, p1, p2]
    rcases sgI_cases (crI a b q) with ⟨k, e⟩ | ⟨k, e⟩ | ⟨k, e⟩ <;> rw [e] <;> omega
  · exact absurd h1 h
theorem hld_spec {a b c q : IP} (h : crI a b c ≠ 0) : (hld a b c q = 1 ↔ InS (cz a) (cz b) (cz c) (cz q)) ∧ (0 ≤ hld a b c q ↔ InT (cz a) (cz b) (cz c) (cz q)) ∧ -1 ≤ hld a b c q ∧ hld a b c q ≤ 1 := by
  have e1 : crI b c a = crI a b c := by unfold crI; grind
  have e2 : crI c a b = crI a b c := by unfold crI; grind
  have b1 := bc_sg (a := b) (b := c) (c := a) (q := q) (by rw [e1]; exact h)
  have b2 := bc_sg (a := c) (b := a) (c := b) (q := q) (by rw [e2]; exact h)
  have b3 := bc_sg (q := q) h
  rw [e1] at b1
  rw [e2] at b2
  have s1 := sg_w (crI a b c) (crI b c q)
  have s2 := sg_w (crI a b c) (crI c a q)
  have s3 := sg_w (crI a b c) (crI a b q)
  unfold hld InS InT
  rw [if_neg h, b1.1, b2.1, b3.1, b1.2, b2.2, b3.2]
  omega
theorem pos_tri {a b c q : IP} (h : chk [a, b, c] = 0) (hq : insP q) : posI [a, b, c] q = hld a b c q := by
  have hz := tri_turn h
  have hzr : cr (cz a) (cz b) (cz c) ≠ 0 := fun e => hz ((cr_nil a b c).1 e)
  obtain ⟨s1, s2, s3, s4⟩ := hld_spec (q := q) hz
  have ho := onP_cz (P := [a, b, c]) (by simp) (q := q)
  have hw := cw_cz (P := [a, b, c]) (by simp) q
  rw [czL3] at ho hw
  unfold posI
  rw [if_pos (show insI q.1 ∧ insI q.2 from hq)]
  rcases tri_cases (q := cz q) hzr with ⟨k1, k2, k3⟩ | ⟨k1, k2, k3⟩ | ⟨k1, k2, k3⟩
  · have := s1.2 k1
    rw [if_neg (fun h => k2 (ho.2 h)), if_neg, this]
    rw [← hw, k3, sg_cz]
    rcases sgI_cases (crI a b c) with ⟨_, e⟩ | ⟨_, e⟩ | ⟨h0, e⟩
    · rw [e]; omega
    · rw [e]; omega
    · exact absurd h0 hz
  · have h1 := s2.2 k1
    have h2 : hld a b c q ≠ 1 := fun h => k2 (s1.1 h)
    rw [if_pos (ho.1 k3)]; omega
  · have h1 : ¬ 0 ≤ hld a b c q := fun h => k1 (s2.1 h)
    rw [if_neg (fun h => k2 (ho.2 h)), if_pos]
    · omega
    · rw [← hw, k3]
end Pl
end
section
/- The examples of chapter 13, by running the plain reading. -/
namespace Pl
open Go Geo Pm
theorem alive13_ok : callT CG [.v .bool] 1 [] = some true := callT_of (run11 (k := 60) (r := [.val .bool true]) (by kernel_rfl)) rfl
end Pl
end
section
/- TriangleOrders: Holds does not depend on the order of the three vertices, agrees with the polygon of the three, and is 0 at the vertices, for any three points and any further one. -/
namespace Pl
open Go Geo Pm
theorem hold3 (a b c q : IP) : holdM [a, b, c] q = if (insP a ∧ insP b ∧ insP c) ∧ insP q then hld a b c q else -1 := by
  unfold holdM
  by_cases h : (insP a ∧ insP b ∧ insP c) ∧ insP q
  · rw [if_pos h, if_pos ⟨rfl, h.1.1, h.1.2.1, h.1.2.2, h.2⟩]; rfl
  · rw [if_neg h, if_neg (fun k => h ⟨⟨k.2.1, k.2.2.1, k.2.2.2.1⟩, k.2.2.2.2⟩)]
theorem hld_at {a b c : IP} (h : crI a b c ≠ 0) : hld a b c a = 0 := by
  unfold hld
  rw [if_neg h, show crI a b a = 0 by unfold crI; grind, show crI c a a = 0 by unfold crI; grind, show crI b c a = crI a b c by unfold crI; grind]
  rcases sgI_cases (crI a b c) with ⟨_, e⟩ | ⟨_, e⟩ | ⟨_, e⟩ <;> rw [e, show sgI 0 = 0 from rfl] <;> omega
theorem TriangleOrders_pure (a b : IP) (x : IP × IP) (w0 : wf t0 a) (w1 : wf t0 b) (w2 : wf t1 x) : CG 45 [.val t0 a, .val t0 b, .val t1 x] = some [.val .bool true] := by
  obtain ⟨c, q⟩ := x
  refine garmentlaw13_TriangleOrders_st a b (c, q) (bnd (holds_st _ _) (bnd (holds_st _ _) ?_))
  have e1 : holdM [b, c, a] q = holdM [a, b, c] q := by
    rw [hold3, hold3, hld_rot]
    by_cases h : (insP a ∧ insP b ∧ insP c) ∧ insP q
    · rw [if_pos h, if_pos ⟨⟨h.1.2.1, h.1.2.2, h.1.1⟩, h.2⟩]
    · rw [if_neg h, if_neg (fun k => h ⟨⟨k.1.2.2, k.1.1, k.1.2.1⟩, k.2⟩)]
  have e2 : holdM [b, a, c] q = holdM [a, b, c] q := by
    have : hld b a c q = hld a b c q := by rw [← hld_swap, hld_rot]
    rw [hold3, hold3, this]
    by_cases h : (insP a ∧ insP b ∧ insP c) ∧ insP q
    · rw [if_pos h, if_pos ⟨⟨h.1.2.1, h.1.1, h.1.2.2⟩, h.2⟩]
    · rw [if_neg h, if_neg (fun k => h ⟨⟨k.1.2.1, k.1.1, k.1.2.2⟩, k.2⟩)]
  refine neg (by rw [bne_iff_ne]; exact fun h => h e1) (bnd (holds_st _ _) (neg (by rw [bne_iff_ne]; exact fun h => h e2) (bnd (where_ok _ _) ?_)))
  show (if ((whereI [a, b, c] q).2 != 0) = true then _ else _) = _
  unfold whereI
  by_cases h : chk [a, b, c] = 0
  · simp only [if_pos h]
    obtain ⟨_, _, hb, _, _⟩ := chk_in h
    have ia := hb a (by simp)
    have ib := hb b (by simp)
    have ic := hb c (by simp)
    have hz := tri_turn h
    have hp : holdM [a, b, c] q = posI [a, b, c] q := by
      rw [hold3]
      by_cases hq : insP q
      · rw [if_pos ⟨⟨ia, ib, ic⟩, hq⟩, pos_tri h hq]
      · rw [if_neg (fun k => hq k.2)]
        unfold posI
        rw [if_neg (show ¬ (insI q.1 ∧ insI q.2) from hq)]
    have pa : holdM [a, b, c] a = 0 := by rw [hold3, if_pos ⟨⟨ia, ib, ic⟩, ia⟩, hld_at hz]
    have pc : holdM [a, b, c] c = 0 := by
      rw [hold3, if_pos ⟨⟨ia, ib, ic⟩, ic⟩, ← hld_rot, ← hld_rot, hld_at]
      rw [show crI c a b = crI a b c by unfold crI; grind]; exact hz
    exact neg (by simp) (pos (by rw [beq_iff_eq]; exact hp) (bnd (holds_st _ _) (pos (by rw [beq_iff_eq]; exact pa) (bnd (holds_st _ _) (pos (by rw [beq_iff_eq]; exact pc) (bnd alive13_ok rfl))))))
  · simp only [if_neg h]
    have hm : holdM [a, b, c] q = -1 := by
      rw [hold3]
      by_cases hi : (insP a ∧ insP b ∧ insP c) ∧ insP q
      · rw [if_pos hi]
        by_cases hz : crI a b c = 0
        · unfold hld; rw [if_pos hz]
        · exact absurd (tri_chk hi.1.1 hi.1.2.1 hi.1.2.2 hz) h
      · rw [if_neg hi]
    exact pos (nn0 h) (pos (by rw [beq_iff_eq]; exact hm) (bnd alive13_ok rfl))
end Pl
end
