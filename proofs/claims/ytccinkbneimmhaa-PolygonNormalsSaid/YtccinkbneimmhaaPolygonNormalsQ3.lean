/- Parts of the proof of PolygonNormals, joined: G15, G16, G17, N11, R11d, K11, Aw11, L11, LPolygonNormals. -/
import Derived.Test.YtccinkbneimmhaaPolygonNormalsQ2
set_option linter.unusedVariables false
set_option linter.unusedSimpArgs false
section
/- Leaving out a straight vertex of a simple polygon; twice the area of a closed path. -/
namespace Geo
theorem Simp.ends {v a b : Pt} {L M N : List Pt} (h : Simp (v :: L)) (hb : L = b :: M) (ha : L = N ++ [a]) : a ≠ v ∧ v ≠ b ∧ a ≠ b ∧ b ∈ L ∧ a ∈ L ∧ v ∉ L := by
  have hn := List.nodup_cons.1 h.nodup
  have hbm : b ∈ L := by rw [hb]; simp
  have ham : a ∈ L := by rw [ha]; simp
  refine ⟨fun e => hn.1 (e ▸ ham), fun e => hn.1 (e ▸ hbm), fun e => ?_, hbm, ham, hn.1⟩
  subst e
  have hl := h.len
  have h2 := hn.2
  rw [hb] at h2 ha
  cases N with
  | nil => simp at ha; subst ha; rw [hb] at hl; simp at hl
  | cons c N =>
    rw [List.cons_append, List.cons.injEq] at ha
    rw [ha.2] at h2
    exact (List.nodup_cons.1 h2).1 (by simp)
/-- a straight vertex lies between its neighbours -/
theorem Simp.mid {v a b : Pt} {L M N : List Pt} (h : Simp (v :: L)) (hb : L = b :: M) (ha : L = N ++ [a]) (h0 : cr a v b = 0) : On a b v ∧ 3 ≤ L.length := by
  obtain ⟨h1, h2, h3, h4, h5, h6⟩ := h.ends hb ha
  have hce := ces_cons (v := v) hb ha
  have hm : On a b v := by
    refine between_of h1 h0 (fun ho => ?_) (fun ho => ?_)
    · rcases h.vert ((hce (a, v)).2 (Or.inr (Or.inr rfl))) (List.mem_cons_of_mem _ h4) ho with e | e
      · exact h3 e.symm
      · exact h2 e.symm
    · rcases h.vert ((hce (v, b)).2 (Or.inl rfl)) (List.mem_cons_of_mem _ h5) ho with e | e
      · exact h1 e
      · exact h3 e
  refine ⟨hm, ?_⟩
  have hl := h.len
  simp only [List.length_cons] at hl
  by_cases h7 : L.length = 2
  · exfalso
    have hL : L = [b, a] := by
      rw [hb] at h7 ha ⊢
      match M, h7 with
      | [c], _ =>
        cases N with
        | nil => simp at ha
        | cons d N =>
          rw [List.cons_append, List.cons.injEq] at ha
          cases N with
          | nil => simp at ha; rw [ha.2]
          | cons _ _ => have := congrArg List.length ha.2; simp at this
    have hs : (b, a) ∈ ces (v :: L) := (hce (b, a)).2 (Or.inr (Or.inl (by rw [hL]; simp [es])))
    rcases h.vert hs List.mem_cons_self (On_symm hm) with e | e
    · exact h2 e
    · exact h1 e.symm
  · omega
theorem Simp.skip {v a b : Pt} {L M N : List Pt} (h : Simp (v :: L)) (hb : L = b :: M) (ha : L = N ++ [a]) (h0 : cr a v b = 0) : Simp L where
  len := (h.mid hb ha h0).2
  nodup := (List.nodup_cons.1 h.nodup).2
  meet := by
    obtain ⟨h1, h2, h3, h4, h5, h6⟩ := h.ends hb ha
    obtain ⟨hm, _⟩ := h.mid hb ha h0
    have hce := ces_cons (v := v) hb ha
    have key : ∀ f ∈ es L, ∀ x, On a b x → On f.1 f.2 x → (x = a ∨ x = b) ∧ (x = f.1 ∨ x = f.2) := by
      intro f hf x hx hy
      have hfm := es_mem hf
      rcases (On_halves h1 h2 hm).1 hx with hx | hx
      · have := h.meet (a, v) ((hce _).2 (Or.inr (Or.inr rfl))) f ((hce _).2 (Or.inr (Or.inl hf))) (fun e => h6 (by rw [← e] at hfm; exact hfm.2)) x hx hy
        refine ⟨?_, this.2⟩
        rcases this.1 with e | e
        · exact Or.inl e
        · exfalso
          have e : x = v := e
          rcases this.2 with k | k
          · exact h6 (by rw [← e, k]; exact hfm.1)
          · exact h6 (by rw [← e, k]; exact hfm.2)
      · have := h.meet (v, b) ((hce _).2 (Or.inl rfl)) f ((hce _).2 (Or.inr (Or.inl hf))) (fun e => h6 (by rw [← e] at hfm; exact hfm.1)) x hx hy
        refine ⟨?_, this.2⟩
        rcases this.1 with e | e
        · exfalso
          have e : x = v := e
          rcases this.2 with k | k
          · exact h6 (by rw [← e, k]; exact hfm.1)
          · exact h6 (by rw [← e, k]; exact hfm.2)
        · exact Or.inr e
    intro e he f hf hne x hx hy
    rcases (ces_L hb ha e).1 he with he | he <;> rcases (ces_L hb ha f).1 hf with hf | hf
    · exact h.meet e ((hce _).2 (Or.inr (Or.inl he))) f ((hce _).2 (Or.inr (Or.inl hf))) hne x hx hy
    · subst hf; exact (key e he x hy hx).symm
    · subst he; exact key f hf x hx hy
    · exact absurd (he.trans hf.symm) hne
theorem Simp.skip_cw {v a b : Pt} {L M N : List Pt} (h : Simp (v :: L)) (hb : L = b :: M) (ha : L = N ++ [a]) (h0 : cr a v b = 0) (q : Pt) : cw (v :: L) q = cw L q := by
  obtain ⟨h1, h2, _⟩ := h.ends hb ha
  have hm := (h.mid hb ha h0).1
  have e : cw [a, v, b] q = cc a v q + (cc v b q + (cc b a q + 0)) := rfl
  rw [cw_cons hb ha, e, cc_anti a b, ← cc_halves h1 h2 hm q]
  omega
/-- on a side -/
def OnP (P : List Pt) (q : Pt) : Prop := ∃ e ∈ ces P, On e.1 e.2 q
theorem off_iff {P : List Pt} {q : Pt} : Off P q ↔ ¬ OnP P q := ⟨fun h ⟨e, he, ho⟩ => h e he ho, fun h e he ho => h ⟨e, he, ho⟩⟩
theorem Simp.skip_on {v a b : Pt} {L M N : List Pt} (h : Simp (v :: L)) (hb : L = b :: M) (ha : L = N ++ [a]) (h0 : cr a v b = 0) (q : Pt) : OnP (v :: L) q ↔ OnP L q := by
  obtain ⟨h1, h2, _⟩ := h.ends hb ha
  have hm := (h.mid hb ha h0).1
  have hce := ces_cons (v := v) hb ha
  constructor
  · rintro ⟨e, he, ho⟩
    rcases (hce e).1 he with rfl | he | rfl
    · exact ⟨(a, b), (ces_L hb ha _).2 (Or.inr rfl), (On_halves h1 h2 hm).2 (Or.inr ho)⟩
    · exact ⟨e, (ces_L hb ha _).2 (Or.inl he), ho⟩
    · exact ⟨(a, b), (ces_L hb ha _).2 (Or.inr rfl), (On_halves h1 h2 hm).2 (Or.inl ho)⟩
  · rintro ⟨e, he, ho⟩
    rcases (ces_L hb ha e).1 he with he | rfl
    · exact ⟨e, (hce _).2 (Or.inr (Or.inl he)), ho⟩
    · rcases (On_halves h1 h2 hm).1 ho with k | k
      · exact ⟨(a, v), (hce _).2 (Or.inr (Or.inr rfl)), k⟩
      · exact ⟨(v, b), (hce _).2 (Or.inl rfl), k⟩
theorem Rot.onP {P Q : List Pt} (h : Rot P Q) (q : Pt) : OnP P q ↔ OnP Q q :=
  ⟨fun ⟨e, he, ho⟩ => ⟨e, (h.ces e).1 he, ho⟩, fun ⟨e, he, ho⟩ => ⟨e, (h.ces e).2 he, ho⟩⟩
/-- twice the area -/
def sh (a b : Pt) : Rat := a.1 * b.2 - a.2 * b.1
def pa : List Pt → Rat
  | a :: b :: l => sh a b + pa (b :: l)
  | _ => 0
def ar : List Pt → Rat
  | [] => 0
  | a :: l => pa (a :: (l ++ [a]))
theorem pa_two (a b : Pt) (l : List Pt) : pa (a :: b :: l) = sh a b + pa (b :: l) := rfl
theorem pa_split (A : List Pt) (x : Pt) (B : List Pt) : pa (A ++ x :: B) = pa (A ++ [x]) + pa (x :: B) := by
  induction A with
  | nil => show pa (x :: B) = 0 + pa (x :: B); grind
  | cons a A ih =>
    cases A with
    | nil =>
      show sh a x + pa (x :: B) = (sh a x + 0) + pa (x :: B)
      grind
    | cons b A =>
      simp only [List.cons_append, pa_two] at ih ⊢
      rw [ih]
      grind
theorem pa_snoc (A : List Pt) (x y : Pt) : pa (A ++ [x] ++ [y]) = pa (A ++ [x]) + sh x y := by
  rw [List.append_assoc]
  show pa (A ++ x :: [y]) = _
  rw [pa_split]
  show _ + (sh x y + 0) = _
  grind
theorem ar_rot (A B : List Pt) : ar (A ++ B) = ar (B ++ A) := by
  cases A with
  | nil => simp
  | cons a A =>
    cases B with
    | nil => simp
    | cons b B =>
      simp only [List.cons_append, ar, List.append_assoc]
      have h1 := pa_split (a :: A) b (B ++ [a])
      have h2 := pa_split (b :: B) a (A ++ [b])
      simp only [List.cons_append, List.append_assoc] at h1 h2
      rw [h1, h2]; grind
theorem Rot.ar {P Q : List Pt} (h : Rot P Q) : ar P = Geo.ar Q := by
  obtain ⟨A, B, rfl, rfl⟩ := h
  exact ar_rot A B
theorem ar_cons {v a b : Pt} {L M N : List Pt} (hb : L = b :: M) (ha : L = N ++ [a]) : ar (v :: L) = ar L + cr a v b := by
  have h1 : ar (v :: L) = sh v b + pa (L ++ [v]) := by rw [hb]; rfl
  have h2 : ar L = pa (L ++ [b]) := by rw [hb]; rfl
  rw [h1, h2, ha, pa_snoc, pa_snoc]
  unfold sh cr
  grind
theorem pa_get (L : List Pt) : ∀ f : Nat → Int, (∀ i, i + 1 < L.length → sh (L.getD i (0, 0)) (L.getD (i + 1) (0, 0)) = (f i : Rat)) → pa L = ((sumN f (L.length - 1) : Int) : Rat) := by
  induction L with
  | nil => intro f _; rfl
  | cons a l ih =>
    cases l with
    | nil => intro f _; rfl
    | cons b l =>
      intro f h
      rw [pa_two, ih (fun i => f (i + 1)) (fun i hi => h (i + 1) (by simpa using hi))]
      show _ = ((sumN _ (l.length + 1) : Int) : Rat)
      rw [sumN_head, Rat.intCast_add, ← h 0 (by simp)]
      rfl
end Geo
end
section
/- The corners of a simple polygon: the straight vertices left out. -/
namespace Geo
def hd (L : List Pt) (z : Pt) : Pt := L.headD z
def lst (p : Pt) : List Pt → Pt
  | [] => p
  | a :: l => lst a l
theorem lst_snoc (p a : Pt) (N : List Pt) : lst p (N ++ [a]) = a := by
  induction N generalizing p with
  | nil => rfl
  | cons b N ih => exact ih b
/-- the corners of a path with what stands ahead and behind -/
def crns (p : Pt) : List Pt → Pt → List Pt
  | [], _ => []
  | v :: L, z => if cr p v (hd L z) = 0 then crns v L z else v :: crns v L z
theorem crns_app (A : List Pt) : ∀ (p v z : Pt) (B : List Pt), crns p (A ++ v :: B) z = crns p A v ++ crns (lst p A) (v :: B) z := by
  induction A with
  | nil => intro p v z B; rfl
  | cons a A ih =>
    intro p v z B
    have e1 : hd (A ++ v :: B) z = hd A v := by cases A <;> rfl
    have e2 : lst p (a :: A) = lst a A := rfl
    rw [List.cons_append, crns, crns, e1, e2, ih]
    split <;> rfl
/-- the corners of a closed path -/
def cnr : List Pt → List Pt
  | [] => []
  | a :: l => crns (lst a l) (a :: l) a
theorem lst_app (p : Pt) (A : List Pt) (b : Pt) (B : List Pt) : lst p (A ++ b :: B) = lst b B := by
  induction A generalizing p with
  | nil => rfl
  | cons a A ih => exact ih a
theorem cnr_app (a b : Pt) (A B : List Pt) : cnr (a :: A ++ b :: B) = crns (lst b B) (a :: A) b ++ crns (lst a A) (b :: B) a := by
  have e : lst a (A ++ b :: B) = lst b B := lst_app a A b B
  show crns (lst a (A ++ b :: B)) (a :: A ++ b :: B) a = _
  rw [crns_app, e]
  rfl
theorem cnr_rot {P Q : List Pt} (h : Rot P Q) : ∃ A B, cnr P = A ++ B ∧ cnr Q = B ++ A := by
  obtain ⟨A, B, rfl, rfl⟩ := h
  cases A with
  | nil => exact ⟨[], cnr B, by simp, by simp⟩
  | cons a A =>
    cases B with
    | nil => exact ⟨cnr (a :: A), [], by simp, by simp⟩
    | cons b B => exact ⟨_, _, cnr_app a b A B, cnr_app b a B A⟩
theorem cnr_Rot {P Q : List Pt} (h : Rot P Q) : Rot (cnr P) (cnr Q) := by
  obtain ⟨A, B, h1, h2⟩ := cnr_rot h
  exact ⟨A, B, h1, h2⟩
theorem crns_sub (L : List Pt) : ∀ (p z : Pt), (crns p L z).Sublist L := by
  induction L with
  | nil => intro p z; exact List.Sublist.slnil
  | cons v L ih =>
    intro p z
    rw [crns]
    split
    · exact (ih v z).cons _
    · exact (ih v z).cons_cons _
theorem cnr_sub (P : List Pt) : (cnr P).Sublist P := by
  cases P with
  | nil => exact List.Sublist.slnil
  | cons a l => exact crns_sub _ _ _
theorem cnr_same_rot {P Q : List Pt} (h : Rot P Q) (hs : cnr P = P) : cnr Q = Q := by
  obtain ⟨A, B, rfl, rfl⟩ := h
  cases A with
  | nil => simpa using hs
  | cons a A =>
    cases B with
    | nil => simpa using hs
    | cons b B =>
      rw [cnr_app] at hs ⊢
      have s1 := crns_sub (a :: A) (lst b B) b
      have s2 := crns_sub (b :: B) (lst a A) a
      have hl := congrArg List.length hs
      simp only [List.length_append] at hl
      have l1 := s1.length_le
      have l2 := s2.length_le
      rw [s1.eq_of_length (by omega), s2.eq_of_length (by omega)]
theorem crns_find (L : List Pt) : ∀ (p z : Pt), crns p L z ≠ L → ∃ A v B, L = A ++ v :: B ∧ cr (lst p A) v (hd B z) = 0 := by
  induction L with
  | nil => intro p z h; exact absurd rfl h
  | cons v L ih =>
    intro p z h
    rw [crns] at h
    by_cases h0 : cr p v (hd L z) = 0
    · exact ⟨[], v, L, rfl, h0⟩
    · rw [if_neg h0] at h
      obtain ⟨A, w, B, h1, h2⟩ := ih v z (fun e => h (by rw [e]))
      refine ⟨v :: A, w, B, by rw [h1]; rfl, ?_⟩
      exact h2
theorem lst_ne (p q : Pt) {A : List Pt} (h : A ≠ []) : lst p A = lst q A := by
  cases A with
  | nil => exact absurd rfl h
  | cons a A => rfl
/-- a straight vertex can be brought to the front -/
theorem straight_front {P : List Pt} (h3 : 3 ≤ P.length) (h : cnr P ≠ P) : ∃ v L a b M N, Rot P (v :: L) ∧ L = b :: M ∧ L = N ++ [a] ∧ cr a v b = 0 := by
  obtain ⟨x, P, rfl⟩ : ∃ x l, P = x :: l := by
    cases P with
    | nil => simp at h3
    | cons x l => exact ⟨x, l, rfl⟩
  obtain ⟨A, v, B, h1, h2⟩ := crns_find _ _ _ h
  have hrot : Rot (x :: P) (v :: (B ++ A)) := ⟨A, v :: B, h1, rfl⟩
  have hne : B ++ A ≠ [] := by
    intro e
    have := hrot.length
    rw [e] at this
    simp only [List.length_cons, List.length_nil] at this h3
    omega
  obtain ⟨b, M, hb⟩ : ∃ b M, B ++ A = b :: M := by
    cases hBA : B ++ A with
    | nil => exact absurd hBA hne
    | cons b M => exact ⟨b, M, rfl⟩
  obtain ⟨N, a, ha⟩ : ∃ N a, B ++ A = N ++ [a] := ⟨(B ++ A).dropLast, (B ++ A).getLast hne, (List.dropLast_concat_getLast hne).symm⟩
  refine ⟨v, B ++ A, a, b, M, N, hrot, hb, ha, ?_⟩
  have eb : hd B x = b := by
    cases B with
    | nil =>
      cases A with
      | nil => simp at hne
      | cons c A =>
        simp at hb h1
        show x = b
        rw [h1.1, hb.1]
    | cons c B => simp at hb; exact hb.1
  have ea : lst (lst x P) A = a := by
    cases A with
    | nil =>
      simp at h1 ha
      show lst x P = a
      rw [h1.2, ha, lst_snoc]
    | cons c A =>
      have : lst (lst x P) (c :: A) = lst c (c :: A) := lst_ne _ _ (by simp)
      rw [this]
      have h5 : lst c (B ++ c :: A) = lst c (N ++ [a]) := by rw [ha]
      rw [lst_app] at h5
      rw [lst_snoc] at h5
      exact h5
  rw [eb, ea] at h2
  exact h2
theorem cr_dir {a v b w : Pt} {t : Rat} (ht : t ≠ 0) (e : v = (a.1 + t * (b.1 - a.1), a.2 + t * (b.2 - a.2))) : (cr w a v = 0 ↔ cr w a b = 0) ∧ (t ≠ 1 → (cr v b w = 0 ↔ cr a b w = 0)) := by
  have e1 : cr w a v = t * cr w a b := by rw [e]; unfold cr; grind
  have e2 : cr v b w = (1 - t) * cr a b w := by rw [e]; unfold cr; grind
  constructor
  · rw [e1]
    constructor
    · intro h
      rcases Rat.mul_eq_zero.1 h with k | k
      · exact absurd k ht
      · exact k
    · intro h; rw [h]; grind
  · intro h1
    rw [e2]
    constructor
    · intro h
      rcases Rat.mul_eq_zero.1 h with k | k
      · exact absurd (by grind) h1
      · exact k
    · intro h; rw [h]; grind
theorem cnr_skip {v a b : Pt} {L M N : List Pt} (h : Simp (v :: L)) (hb : L = b :: M) (ha : L = N ++ [a]) (h0 : cr a v b = 0) : cnr (v :: L) = cnr L := by
  obtain ⟨h1, h2, h3, _⟩ := h.ends hb ha
  obtain ⟨hm, hl⟩ := h.mid hb ha h0
  obtain ⟨t, t0, t1, e⟩ := between_strict h1 h2 hm
  obtain ⟨K, hK⟩ : ∃ K, M = K ++ [a] := by
    rw [hb] at ha
    cases N with
    | nil => simp at ha; exact absurd ha.1.symm h3
    | cons c N => rw [List.cons_append, List.cons.injEq] at ha; exact ⟨N, ha.2⟩
  have hK0 : K ≠ [] := by
    intro hk
    rw [hk] at hK
    rw [hb, hK] at hl
    simp at hl
  have hM0 : M ≠ [] := by rw [hK]; simp
  subst hb
  subst hK
  have la : lst v (b :: (K ++ [a])) = a := lst_snoc b a K
  have la2 : lst b (K ++ [a]) = a := lst_snoc b a K
  have c1 : cnr (v :: b :: (K ++ [a])) = crns v (b :: (K ++ [a])) v := by
    show crns (lst v (b :: (K ++ [a]))) (v :: b :: (K ++ [a])) v = _
    rw [la, crns, if_pos (show cr a v (hd (b :: (K ++ [a])) v) = 0 from h0)]
  have c2 : cnr (b :: (K ++ [a])) = crns a (b :: (K ++ [a])) b := by
    show crns (lst b (K ++ [a])) (b :: (K ++ [a])) b = _
    rw [la2]
  rw [c1, c2]
  have f : ∀ p z, crns p (b :: (K ++ [a])) z = (if cr p b (hd K a) = 0 then [] else [b]) ++ (crns b K a ++ (if cr (lst b K) a z = 0 then [] else [a])) := by
    intro p z
    rw [crns, crns_app]
    have e1 : hd (K ++ [a]) z = hd K a := by cases K <;> rfl
    have e2 : crns (lst b K) [a] z = if cr (lst b K) a z = 0 then [] else [a] := rfl
    rw [e1, e2]
    split <;> simp
  rw [f v v, f a b]
  have g1 := (cr_dir (w := hd K a) (by grind) e).2 (by grind)
  have g2 := (cr_dir (w := lst b K) (by grind) e).1
  simp only [g1, g2]
/-- the corners make the same polygon -/
theorem cnr_good : ∀ (n : Nat) (P : List Pt), P.length = n → Simp P → Simp (cnr P) ∧ (∀ q, cw (cnr P) q = cw P q) ∧ (∀ q, OnP (cnr P) q ↔ OnP P q) ∧ ar (cnr P) = ar P ∧ cnr (cnr P) = cnr P := by
  intro n
  induction n using Nat.strongRecOn with
  | ind n ih =>
    intro P hn hP
    by_cases h : cnr P = P
    · rw [h]; exact ⟨hP, fun _ => rfl, fun _ => Iff.rfl, rfl, h⟩
    · obtain ⟨v, L, a, b, M, N, hr, hb, ha, h0⟩ := straight_front hP.len h
      have hs := hr.simp hP
      have hlen := hr.length
      simp only [List.length_cons] at hlen
      obtain ⟨i1, i2, i3, i4, i5⟩ := ih L.length (by omega) L rfl (hs.skip hb ha h0)
      have hc := cnr_Rot hr
      rw [cnr_skip hs hb ha h0] at hc
      refine ⟨hc.symm.simp i1, fun q => ?_, fun q => ?_, ?_, cnr_same_rot hc.symm i5⟩
      · rw [hc.cw, i2, ← hs.skip_cw hb ha h0, hr.cw]
      · rw [hc.onP, i3, ← hs.skip_on hb ha h0, hr.onP]
      · rw [hc.ar, i4, hr.ar, ar_cons hb ha, h0, Rat.add_zero]
end Geo
end
section
/- The sign of the area is that of the winding; common points of segments; back to the program's test. -/
namespace Geo
/-- the winding number s of the inside, and the area's sign -/
structure Turns (P : List Pt) (s : Int) : Prop where
  one : s = 1 ∨ s = -1
  two : ∀ q, Off P q → cw P q = 0 ∨ cw P q = s
  some : ∃ y, Off P y ∧ cw P y = s
  area : 0 < (s : Rat) * ar P
theorem Turns.pos {P : List Pt} {s : Int} (h : Turns P s) : s = 1 ↔ 0 < ar P := by
  have ha := h.area
  have e1 : ((1 : Int) : Rat) = 1 := rfl
  have e2 : ((-1 : Int) : Rat) = -1 := rfl
  rcases h.one with rfl | rfl
  · rw [e1] at ha; exact ⟨fun _ => by grind, fun _ => rfl⟩
  · rw [e2] at ha; exact ⟨fun h => by omega, fun h => by exfalso; grind⟩
/-- crossing segments have a point in common -/
theorem cross_pt {a b c d : Pt} (h1 : (cr a b c < 0 ∧ 0 < cr a b d) ∨ (0 < cr a b c ∧ cr a b d < 0)) (h2 : (cr c d a < 0 ∧ 0 < cr c d b) ∨ (0 < cr c d a ∧ cr c d b < 0)) : ∃ x, On a b x ∧ On c d x := by
  have hx : ∃ x, On c d x ∧ cr a b x = 0 := by
    rcases h1 with ⟨k1, k2⟩ | ⟨k1, k2⟩
    · obtain ⟨x, x1, x2, _⟩ := ivt k1 (show 0 ≤ cr a b d by grind); exact ⟨x, x1, x2⟩
    · obtain ⟨x, x1, x2, _⟩ := ivt k2 (show 0 ≤ cr a b c by grind); exact ⟨x, On_symm x1, x2⟩
  have hy : ∃ y, On a b y ∧ cr c d y = 0 := by
    rcases h2 with ⟨k1, k2⟩ | ⟨k1, k2⟩
    · obtain ⟨x, x1, x2, _⟩ := ivt k1 (show 0 ≤ cr c d b by grind); exact ⟨x, x1, x2⟩
    · obtain ⟨x, x1, x2, _⟩ := ivt k2 (show 0 ≤ cr c d a by grind); exact ⟨x, On_symm x1, x2⟩
  obtain ⟨x, x1, x2⟩ := hx
  obtain ⟨y, y1, y2⟩ := hy
  have x3 := On_cr x1
  have y3 := On_cr y1
  have hne : cr a b d - cr a b c ≠ 0 := by rcases h1 with h | h <;> grind
  have e : x = y := by
    have d1 : (cr a b d - cr a b c) * (x.1 - y.1) = 0 := by unfold cr at *; grind
    have d2 : (cr a b d - cr a b c) * (x.2 - y.2) = 0 := by unfold cr at *; grind
    apply Prod.ext
    · rcases Rat.mul_eq_zero.1 d1 with k | k
      · exact absurd k hne
      · grind
    · rcases Rat.mul_eq_zero.1 d2 with k | k
      · exact absurd k hne
      · grind
  exact ⟨x, e ▸ y1, x1⟩
theorem meet_pt {a b c d : Pt} (h : MeetR a b c d) : ∃ x, On a b x ∧ On c d x := by
  rcases h with h | h | h | h | ⟨h, k⟩
  · exact ⟨c, h, On_left _ _⟩
  · exact ⟨d, h, On_right _ _⟩
  · exact ⟨a, On_left _ _, h⟩
  · exact ⟨b, On_right _ _, h⟩
  · exact cross_pt h k
theorem nodup_cz {P : List IP} : (czL P).Nodup ↔ P.Nodup := by
  unfold czL List.Nodup
  rw [List.pairwise_map]
  constructor
  · intro h; exact h.imp fun hab e => hab (by rw [e])
  · intro h; exact h.imp fun hab e => hab (cz_inj.1 e)
theorem nth_inj {P : List IP} (h : P.Nodup) {i j : Nat} (h0 : 0 < P.length) (e : nth P i = nth P j) : i % P.length = j % P.length := by
  have hi := Nat.mod_lt i h0
  have hj := Nat.mod_lt j h0
  have e1 : nth P i = P[i % P.length] := by unfold nth; simp [List.getD, hi]
  have e2 : nth P j = P[j % P.length] := by unfold nth; simp [List.getD, hj]
  rw [e1, e2] at e
  have hp := List.pairwise_iff_getElem.1 h
  rcases Nat.lt_trichotomy (i % P.length) (j % P.length) with k | k | k
  · exact absurd e (hp _ _ hi hj k)
  · exact k
  · exact absurd e.symm (hp _ _ hj hi k)
theorem simpI_of {P : List IP} (h3 : 3 ≤ P.length) (h : Simp (czL P)) : SimpI P := by
  have hP : P ≠ [] := by rintro rfl; simp at h3
  have hn := nodup_cz.1 h.nodup
  have h0 : 0 < P.length := by omega
  have inj : ∀ {i j}, nth P i = nth P j → i % P.length = j % P.length := fun e => nth_inj hn h0 e
  have side : ∀ i, i < P.length → (cz (nth P i), cz (nth P (i + 1))) ∈ ces (czL P) := fun i hi => (ces_get hP _).2 ⟨i, hi, rfl⟩
  have mem : ∀ i, cz (nth P i) ∈ czL P := fun i => List.mem_map_of_mem (nth_in hP i)
  intro i hi
  have m1 : (i + 1) % P.length = if i + 1 = P.length then 0 else i + 1 := by
    split
    · rename_i e; rw [e, Nat.mod_self]
    · exact Nat.mod_eq_of_lt (by omega)
  have m2 : (i + 2) % P.length = if i + 2 = P.length then 0 else if i + 1 = P.length then 1 else i + 2 := by
    split
    · rename_i e; rw [e, Nat.mod_self]
    · split
      · rename_i e; rw [show i + 2 = 1 + P.length by omega, Nat.add_mod_right]; exact Nat.mod_eq_of_lt (by omega)
      · exact Nat.mod_eq_of_lt (by omega)
  have m0 : i % P.length = i := Nat.mod_eq_of_lt hi
  refine ⟨fun e => ?_, fun hb => ?_, fun hb => ?_, fun k hik hk hx hm => ?_⟩
  · have := inj e
    rw [m0, m1] at this
    split at this <;> omega
  · rcases h.vert (side i hi) (mem (i + 2)) ((bet_On _ _ _).1 hb) with e | e
    · have := inj (cz_inj.1 e)
      rw [m0, m2] at this
      (repeat' split at this) <;> omega
    · have := inj (cz_inj.1 e)
      rw [m1, m2] at this
      (repeat' split at this) <;> omega
  · have hs : (cz (nth P (i + 1)), cz (nth P (i + 2))) ∈ ces (czL P) := by
      have := side ((i + 1) % P.length) (Nat.mod_lt _ h0)
      have e2 : nth P ((i + 1) % P.length + 1) = nth P (i + 2) := by unfold nth; rw [Nat.mod_add_mod]
      rw [nth_modl, e2] at this
      exact this
    rcases h.vert hs (mem i) ((bet_On _ _ _).1 hb) with e | e
    · have := inj (cz_inj.1 e)
      rw [m0, m1] at this
      split at this <;> omega
    · have := inj (cz_inj.1 e)
      rw [m0, m2] at this
      (repeat' split at this) <;> omega
  · obtain ⟨x, x1, x2⟩ := meet_pt ((meetI_R _ _ _ _).1 hm)
    have k0 : k % P.length = k := Nat.mod_eq_of_lt hk
    have k1 : (k + 1) % P.length = if k + 1 = P.length then 0 else k + 1 := by
      split
      · rename_i e; rw [e, Nat.mod_self]
      · exact Nat.mod_eq_of_lt (by omega)
    have hne : (cz (nth P i), cz (nth P (i + 1))) ≠ (cz (nth P k), cz (nth P (k + 1))) := fun e => by
      have := inj (cz_inj.1 (congrArg Prod.fst e))
      rw [m0, k0] at this
      omega
    obtain ⟨u, w⟩ := h.meet _ (side i hi) _ (side k hk) hne x x1 x2
    have fin : ∀ s t : Nat, x = cz (nth P s) → x = cz (nth P t) → s % P.length = t % P.length := fun s t h1 h2 => inj (cz_inj.1 (h1.symm.trans h2))
    rcases u with u | u <;> rcases w with w | w
    · have := fin i k u w; rw [m0, k0] at this; omega
    · have := fin i (k + 1) u w; rw [m0, k1] at this; split at this <;> omega
    · have := fin (i + 1) k u w; rw [m1, k0] at this; split at this <;> omega
    · have := fin (i + 1) (k + 1) u w; rw [m1, k1] at this; (repeat' split at this) <;> omega
theorem simpI_iff {P : List IP} (h3 : 3 ≤ P.length) : SimpI P ↔ Simp (czL P) := ⟨simp_cz h3, simpI_of h3⟩
end Geo
end
section
/- The normal form of a simple polygon, in plain terms. -/
namespace Pl
open Go Geo Pm
theorem czL_cons (a : IP) (l : List IP) : czL (a :: l) = cz a :: czL l := rfl
theorem czL_app (a b : List IP) : czL (a ++ b) = czL a ++ czL b := List.map_append ..
theorem czL_inj {a b : List IP} (h : czL a = czL b) : a = b := by
  unfold czL at h
  exact List.map_inj_right (fun x y e => cz_inj.1 e) |>.1 h
def cornFrom (P : List IP) (i m : Nat) : List IP := ((List.range' i m).filter (turnsAt P)).map (nth P)
theorem corn_crns {P : List IP} (h0 : 0 < P.length) : ∀ (m i : Nat), i + m = P.length →
    crns (cz (nth P (i + P.length - 1))) (czL (P.drop i)) (cz (nth P 0)) = czL (cornFrom P i m)
  | 0, i, h => by rw [List.drop_of_length_le (by omega)]; rfl
  | m + 1, i, h => by
    have hi : i < P.length := by omega
    have ih := corn_crns h0 m (i + 1) (by omega)
    rw [show i + 1 + P.length - 1 = i + P.length by omega, nth_per] at ih
    have eh : hd (czL (P.drop (i + 1))) (cz (nth P 0)) = cz (nth P (i + 1)) := by
      by_cases h1 : i + 1 < P.length
      · rw [drop_cons h1, nth_get h1]; rfl
      · rw [List.drop_of_length_le (by omega), show i + 1 = 0 + P.length by omega, nth_per]; rfl
    have er : cornFrom P i (m + 1) = (if turnsAt P i then [nth P i] else []) ++ cornFrom P (i + 1) m := by
      unfold cornFrom
      rw [List.range'_succ, List.filter_cons]
      split <;> simp
    rw [drop_cons hi, czL_cons, ← nth_get hi, crns, eh, er, ih, czL_app]
    have et : turnsAt P i = true ↔ ¬ cr (cz (nth P (i + P.length - 1))) (cz (nth P i)) (cz (nth P (i + 1))) = 0 := by
      rw [cr_nil]; unfold turnsAt; simp
    by_cases hc : cr (cz (nth P (i + P.length - 1))) (cz (nth P i)) (cz (nth P (i + 1))) = 0
    · rw [if_pos hc, if_neg (fun h => et.1 h hc)]; rfl
    · rw [if_neg hc, if_pos (et.2 hc)]; rfl
theorem lst_cz (p : IP) (l : List IP) : lst (cz p) (czL l) = cz (nth (p :: l) l.length) := by
  have : ∀ (l : List IP) (p : IP), lst (cz p) (czL l) = cz ((p :: l).getD l.length (0, 0)) := by
    intro l
    induction l with
    | nil => intro p; rfl
    | cons a l ih => intro p; exact ih a
  rw [this l p]
  unfold nth
  rw [Nat.mod_eq_of_lt (by simp)]
theorem corn_cnr {P : List IP} (hP : P ≠ []) : czL (corn P) = cnr (czL P) := by
  obtain ⟨p, l, rfl⟩ : ∃ p l, P = p :: l := by
    cases P with
    | nil => exact absurd rfl hP
    | cons p l => exact ⟨p, l, rfl⟩
  have h := corn_crns (P := p :: l) (by simp) (p :: l).length 0 (by simp)
  have e : corn (p :: l) = cornFrom (p :: l) 0 (p :: l).length := by unfold corn cornFrom; rw [List.range_eq_range']
  rw [e, ← h]
  show _ = crns (lst (cz p) (czL l)) (cz p :: czL l) (cz p)
  rw [lst_cz]
  have e2 : nth (p :: l) (0 + (p :: l).length - 1) = nth (p :: l) l.length := by simp
  rw [e2]
  rfl
theorem ar_cz {P : List IP} (hP : P ≠ []) : ar (czL P) = ((areaI P : Int) : Rat) := by
  obtain ⟨a, l, h, k⟩ := closed_get P hP
  have hl : (a :: (l ++ [a])).length = P.length + 1 := by
    have := congrArg List.length h
    rw [czL_len] at this
    simp at this ⊢; omega
  rw [h]
  show pa (a :: (l ++ [a])) = _
  rw [pa_get (a :: (l ++ [a])) (fun i => shoe (nth P i) (nth P (i + 1))) (fun i hi => ?_), hl, ← shoe_area]
  · rfl
  · rw [k i (by omega), k (i + 1) (by omega)]
    unfold sh cz shoe
    rw [Rat.intCast_sub, Rat.intCast_mul, Rat.intCast_mul]
theorem onP_cz {P : List IP} (hP : P ≠ []) {q : IP} : OnP (czL P) (cz q) ↔ OnI P q := by
  have := off_cz hP (q := q)
  rw [off_iff] at this
  constructor
  · intro h; exact Classical.not_not.1 fun hn => this.2 hn h
  · intro h; exact Classical.not_not.1 fun hn => this.1 hn h
/-- two lists that are one polygon but for where they begin -/
def RotI (P Q : List IP) : Prop := ∃ A B, P = A ++ B ∧ Q = B ++ A
theorem RotI.cz {P Q : List IP} (h : RotI P Q) : Rot (czL P) (czL Q) := by
  obtain ⟨A, B, rfl, rfl⟩ := h
  exact ⟨czL A, czL B, czL_app A B, czL_app B A⟩
theorem RotI.symm {P Q : List IP} (h : RotI P Q) : RotI Q P := by obtain ⟨A, B, h1, h2⟩ := h; exact ⟨B, A, h2, h1⟩
theorem RotI.len {P Q : List IP} (h : RotI P Q) : P.length = Q.length := by obtain ⟨A, B, rfl, rfl⟩ := h; simp; omega
theorem RotI.mem {P Q : List IP} (h : RotI P Q) (s : IP) : s ∈ P ↔ s ∈ Q := by obtain ⟨A, B, rfl, rfl⟩ := h; simp [or_comm]
theorem RotI.ne {P Q : List IP} (h : RotI P Q) (hP : P ≠ []) : Q ≠ [] := by
  intro e
  have := h.len
  rw [e] at this
  exact hP (List.length_eq_zero_iff.1 this)
theorem RotI.chk {P Q : List IP} (h : RotI P Q) : Geo.chk P = Geo.chk Q := by
  have hl := h.len
  have hi : InsI P ↔ InsI Q := ⟨fun k s hs => k s ((h.mem s).2 hs), fun k s hs => k s ((h.mem s).1 hs)⟩
  unfold Geo.chk
  by_cases h1 : 40 < P.length
  · rw [if_pos h1, if_pos (by omega)]
  rw [if_neg h1, if_neg (show ¬ 40 < Q.length by omega)]
  by_cases h2 : P.length < 3
  · rw [if_pos h2, if_pos (by omega)]
  rw [if_neg h2, if_neg (show ¬ Q.length < 3 by omega)]
  have hs : SimpI P ↔ SimpI Q := by
    rw [simpI_iff (by omega), simpI_iff (by omega)]
    exact ⟨h.cz.simp, h.cz.symm.simp⟩
  rw [show InsI P = InsI Q from propext hi, show SimpI P = SimpI Q from propext hs]
theorem RotI.area {P Q : List IP} (h : RotI P Q) (hP : P ≠ []) : areaI P = areaI Q := by
  have := h.cz.ar
  rw [ar_cz hP, ar_cz (h.ne hP)] at this
  exact Rat.intCast_inj.1 this
theorem RotI.wnd {P Q : List IP} (h : RotI P Q) (hP : P ≠ []) (q : IP) : wndI P q = wndI Q q := by
  rw [← cw_cz hP, ← cw_cz (h.ne hP), h.cz.cw]
theorem RotI.on {P Q : List IP} (h : RotI P Q) (hP : P ≠ []) (q : IP) : OnI P q ↔ OnI Q q := by
  rw [← onP_cz hP, ← onP_cz (h.ne hP), h.cz.onP]
theorem leastL_rotI {l : List IP} : RotI l (leastL l) := ⟨l.take (leastAt l), l.drop (leastAt l), (List.take_append_drop _ _).symm, rfl⟩
/-- the corners of a valid polygon are a valid polygon that is the same -/
structure Corn (P : List IP) : Prop where
  chk : Geo.chk (corn P) = 0
  len : (corn P).length ≤ P.length
  area : areaI (corn P) = areaI P
  wnd : ∀ q, wndI (corn P) q = wndI P q
  on : ∀ q, OnI (corn P) q ↔ OnI P q
  self : corn (corn P) = corn P
  nodup : (corn P).Nodup
  sub : (corn P).Sublist P
theorem simp_len {P : List IP} (h : Simp (czL P)) : 3 ≤ P.length := by have := h.len; rwa [czL_len] at this
theorem corn_of {P : List IP} (h : chk P = 0) : Corn P := by
  obtain ⟨h3, h40, hb, hP, hs⟩ := chk_in h
  obtain ⟨g1, g2, g3, g4, g5⟩ := cnr_good _ (czL P) rfl (simp_cz h3 hs)
  rw [← corn_cnr hP] at g1 g2 g3 g4 g5
  have c3 := simp_len g1
  have cne : corn P ≠ [] := by intro e; rw [e] at c3; simp at c3
  have hsub : (czL (corn P)).Sublist (czL P) := by rw [corn_cnr hP]; exact cnr_sub _
  have hlen : (corn P).length ≤ P.length := cornTo_len P P.length
  have hsub2 : (corn P).Sublist P := by
    have key : ∀ (b : List IP) (x : List Pt), x.Sublist (czL b) → ∃ a : List IP, x = czL a ∧ a.Sublist b := by
      intro b
      induction b with
      | nil => intro x h; exact ⟨[], List.sublist_nil.1 h, List.Sublist.slnil⟩
      | cons y b ih =>
        intro x h
        rw [czL_cons] at h
        rcases List.sublist_cons_iff.1 h with h | ⟨r, e, h'⟩
        · obtain ⟨a, h1, h2⟩ := ih x h
          exact ⟨a, h1, h2.cons _⟩
        · obtain ⟨a, e2, h2⟩ := ih r h'
          exact ⟨y :: a, by rw [e, e2]; rfl, h2.cons_cons _⟩
    obtain ⟨a, h1, h2⟩ := key _ _ hsub
    rw [czL_inj h1]; exact h2
  refine ⟨chk_ok.2 ⟨by omega, c3, fun s hs => hb s (hsub2.subset hs), simpI_of c3 g1⟩, hlen, ?_, fun q => ?_, fun q => ?_, ?_, nodup_cz.1 g1.nodup, hsub2⟩
  · rw [ar_cz cne, ar_cz hP] at g4; exact Rat.intCast_inj.1 g4
  · rw [← cw_cz cne, ← cw_cz hP]; exact g2 _
  · rw [← onP_cz cne, ← onP_cz hP]; exact g3 _
  · rw [← corn_cnr cne] at g5; exact czL_inj g5
end Pl
end
section
/- The reference's normal form. -/
namespace Pl
open Go Geo Pm
theorem less_ok (a b : IP) : callT CG [.v .bool] 88 [.val t0 a, .val t0 b] = some (decide (lexP a b)) := by
  refine callT_of (garmentref11_Less_st a b (r := [.val .bool (decide (lexP a b))]) ?_) rfl
  by_cases h1 : a.1 < b.1
  · refine pos (dt h1) ?_; rw [decide_eq_true (show lexP a b from Or.inl h1)]
  refine neg (df h1) ?_
  by_cases h2 : a.1 = b.1
  · refine pos (by simp [h2]) ?_
    rw [show decide (a.2 < b.2) = decide (lexP a b) from decide_eq_decide.2 ⟨fun h => Or.inr ⟨h2, h⟩, fun h => by unfold lexP at h; omega⟩]
  · refine neg (by simp [h2]) ?_
    rw [decide_eq_false (by unfold lexP; omega)]
theorem reversed_lp {P : List IP} (hl : P.length < 8796093022208) : ∀ (i : Nat), i ≤ P.length →
    garmentref11_Reversed_lp1 CG P P ((i : Int) - 1) ((P.drop i).reverse) = some [.own t0 P.reverse]
  | 0, h => by
    refine garmentref11_Reversed_lp1_st _ _ _ _ (neg (df (by omega)) ?_)
    rw [List.drop_zero]
  | i + 1, h => by
    have hi : i < P.length := by omega
    refine garmentref11_Reversed_lp1_st _ _ _ _ ?_
    rw [show ((i + 1 : Nat) : Int) - 1 = (i : Int) by omega, wr64 (by omega) (by omega), Int.toNat_natCast, getD_eq hi]
    refine pos (dt (by omega)) (pos (ixn hi) (pos (by simp; omega) ?_))
    have := reversed_lp hl i (by omega)
    rw [drop_cons hi, List.reverse_cons] at this
    exact this
theorem reversed_ok {P : List IP} (hl : P.length < 8796093022208) : callT CG [.o t0] 86 [.val (.sl t0) P] = some P.reverse := by
  refine callT_of (garmentref11_Reversed_st P (r := [.own t0 P.reverse]) ?_) rfl
  rw [wr64 (by omega) (by omega)]
  have := reversed_lp hl P.length (Nat.le_refl _)
  rw [List.drop_of_length_le (Nat.le_refl _)] at this
  exact this
theorem leastTo1 (l : List IP) : leastTo l 1 = 0 := by simp only [leastTo, lexP_irr (l.getD 0 (0, 0)), if_false]
theorem least_fin {l : List IP} (hl : l.length < 4398046511104) {k : Nat} (hk : k ≤ l.length) : (if (0 ≤ (k : Int) ∧ (k : Int) ≤ ((List.length l : Nat) : Int)) then (if (List.length ([] : List (Int × Int)) + List.length (List.drop (Int.toNat (k : Int)) l) < 8796093022208) then (if (0 ≤ (k : Int) ∧ (k : Int) ≤ ((List.length l : Nat) : Int)) then (if (List.length (([] : List (Int × Int)) ++ (List.drop (Int.toNat (k : Int)) l)) + List.length (List.take (Int.toNat (k : Int)) l) < 8796093022208) then (some [D.own t0 ((([] : List (Int × Int)) ++ (List.drop (Int.toNat (k : Int)) l)) ++ (List.take (Int.toNat (k : Int)) l))]) else none) else none) else none) else none) = some [D.own t0 (l.drop k ++ l.take k)] := by
  rw [Int.toNat_natCast]
  refine pos (by omega) (pos (by simp; omega) (pos (by omega) (pos (by simp; omega) ?_)))
  rw [List.nil_append]
theorem least_lp {l : List IP} (hl : l.length < 4398046511104) : ∀ (m i : Nat), i + m = l.length → 0 < i →
    garmentref11_Least_lp1 CG l l ((leastTo l i : Nat) : Int) (i : Int) = some [.own t0 (leastL l)]
  | 0, i, h, h0 => by
    obtain rfl : i = l.length := by omega
    refine garmentref11_Least_lp1_st _ _ _ _ (neg (ige (by omega)) ?_)
    exact least_fin hl (Nat.le_of_lt (leastTo_spec l l.length (Nat.le_refl _) h0).1)
  | m + 1, i, h, h0 => by
    have hi : i < l.length := by omega
    have hk := (leastTo_spec l i (by omega) h0).1
    have ih := least_lp hl m (i + 1) (by omega) (by omega)
    refine garmentref11_Least_lp1_st _ _ _ _ ?_
    rw [Int.toNat_natCast, Int.toNat_natCast, wrS (by omega)]
    refine pos (ilt hi) (pos (ixn hi) (pos (by omega) (bnd (less_ok _ _) ?_)))
    by_cases hc : lexP (l.getD i (0, 0)) (l.getD (leastTo l i) (0, 0))
    · refine pos (dt hc) ?_
      rw [show leastTo l (i + 1) = i from if_pos hc] at ih
      exact ih
    · refine neg (df hc) ?_
      rw [show leastTo l (i + 1) = leastTo l i from if_neg hc] at ih
      exact ih
theorem least_ok {l : List IP} (hl : l.length < 4398046511104) : callT CG [.o t0] 87 [.val (.sl t0) l] = some (leastL l) := by
  refine callT_of (garmentref11_Least_st l (r := [.own t0 (leastL l)]) ?_) rfl
  by_cases h : l = []
  · subst h
    exact garmentref11_Least_lp1_st _ _ _ _ (neg (ige (by simp)) (least_fin (k := 0) (by simp) (Nat.le_refl _)))
  · have h0 := List.length_pos_iff.2 h
    have := least_lp hl (l.length - 1) 1 (by omega) (by omega)
    rw [leastTo1] at this
    exact this
theorem rnormal_lp {P : List IP} (hl : P.length ≤ 1000) (hb : InsI P) (hc : Corn P) : ∀ (m i : Nat), i + m = P.length →
    garmentref11_Normal_lp1 CG P P (P.length : Int) (i : Int) (cornTo P i) = some [.own t0 (nrm P), .val tI 0]
  | 0, i, h => by
    obtain rfl : i = P.length := by omega
    refine garmentref11_Normal_lp1_st _ _ _ _ _ ?_
    rw [show cornTo P P.length = corn P from rfl]
    have hlen : (corn P).length ≤ P.length := cornTo_len P P.length
    refine neg (ige (by omega)) (bnd (twice_ok (fun s hs => hb s (hc.sub.subset hs)) (by omega)) ?_)
    rw [hc.area]
    unfold nrm
    by_cases ha : areaI P < 0
    · rw [if_pos ha]
      exact pos (dt ha) (bnd (reversed_ok (by omega)) (bnd (least_ok (by simp; omega)) rfl))
    · rw [if_neg ha]
      exact neg (df ha) (bnd (least_ok (by omega)) rfl)
  | m + 1, i, h => by
    have hi : i < P.length := by omega
    have hP : P ≠ [] := by rintro rfl; cases hi
    have h0 : 0 < P.length := by omega
    have ih := rnormal_lp hl hb hc m (i + 1) (by omega)
    rw [cornTo_succ] at ih
    have hlen := cornTo_len P i
    refine garmentref11_Normal_lp1_st _ _ _ _ _ ?_
    rw [prev_w h0 (by omega), wrS (by omega), tmod_nat]
    simp only [Int.toNat_natCast]
    rw [show P.getD ((i + P.length - 1) % P.length) (0, 0) = nth P (i + P.length - 1) from rfl, show P.getD ((i + 1) % P.length) (0, 0) = nth P (i + 1) from rfl, nth_getD hi]
    refine pos (ilt hi) (pos (by omega) (pos (ixn (Nat.mod_lt _ h0)) (pos (ixn hi) (pos (by omega) (pos (ixn (Nat.mod_lt _ h0)) (bnd (cross_ok (insP_of hb hP _) (insP_of hb hP _) (insP_of hb hP _)) ?_))))))
    by_cases hc : turnsAt P i
    · rw [if_pos hc] at ih
      exact pos hc (pos (ixn hi) (pos (by simp; omega) ih))
    · rw [if_neg hc, List.append_nil] at ih
      exact neg hc ih
theorem rnormal_ok (P : List IP) : callT CG [.o t0, .v tI] 83 [.val (.sl t0) P] = some (if chk P = 0 then nrm P else [], chk P) := by
  refine callT_of (garmentref11_Normal_st P (r := [.own t0 (if chk P = 0 then nrm P else []), .val tI (chk P)]) ?_) rfl
  refine bnd (rcheck_ok P) ?_
  by_cases h : chk P = 0
  · obtain ⟨h3, h40, hb, _⟩ := chk_in h
    refine neg (by simp [h]) ?_
    rw [if_pos h, h]
    exact rnormal_lp (by omega) hb (corn_of h) P.length 0 (by omega)
  · refine pos (by simp [h]) ?_; rw [if_neg h]
theorem corn_ne {P : List IP} (h : chk P = 0) : corn P ≠ [] := by
  have := (chk_in (corn_of h).chk).1
  intro e
  rw [e] at this
  simp at this
theorem pnormal_ok (P : List IP) : callT CG [.v (.sl t0), .v tI] 8 [.val (.sl t0) P] = some (if chk P = 0 then nrm P else [], chk P) := normal_ok fun h => corn_ne h
theorem leastL_len (l : List IP) : (leastL l).length = l.length := (leastL_rotI (l := l)).len.symm
theorem nrm_len {P : List IP} : (nrm P).length ≤ P.length := by
  have hlen : (corn P).length ≤ P.length := cornTo_len P P.length
  unfold nrm
  rw [leastL_len]
  split
  · rw [List.length_reverse]; exact hlen
  · exact hlen
theorem nrmE_len {P : List IP} : (if chk P = 0 then nrm P else []).length ≤ 40 := by
  split
  · rename_i h; have := (chk_in h).2.1; have := nrm_len (P := P); omega
  · simp
end Pl
end
section
/- The test of a polygon by computing; the examples are run with it. -/
namespace Pl
open Go Geo Pm
def betB (a b q : IP) : Bool := crI a b q == 0 && (decide (min a.1 b.1 ≤ q.1) && decide (q.1 ≤ max a.1 b.1)) && (decide (min a.2 b.2 ≤ q.2) && decide (q.2 ≤ max a.2 b.2))
theorem betB_iff (a b q : IP) : betB a b q = true ↔ BetI a b q := by unfold betB BetI; simp only [Bool.and_eq_true, beq_iff_eq, decide_eq_true_eq, and_assoc]
def divB (a b p q : IP) : Bool := (decide (crI a b p < 0) && decide (0 < crI a b q)) || (decide (0 < crI a b p) && decide (crI a b q < 0))
theorem divB_iff (a b p q : IP) : divB a b p q = true ↔ DivI a b p q := by unfold divB DivI; simp only [Bool.or_eq_true, Bool.and_eq_true, decide_eq_true_eq]
def meetB (a b c d : IP) : Bool := betB a b c || (betB a b d || (betB c d a || (betB c d b || (divB a b c d && divB c d a b))))
theorem meetB_iff (a b c d : IP) : meetB a b c d = true ↔ MeetI a b c d := by unfold meetB MeetI; simp only [Bool.or_eq_true, Bool.and_eq_true, betB_iff, divB_iff]
def simpB (P : List IP) : Bool := (List.range P.length).all fun i => !(decide (nth P i = nth P (i + 1))) && (!betB (nth P i) (nth P (i + 1)) (nth P (i + 2)) && (!betB (nth P (i + 1)) (nth P (i + 2)) (nth P i) &&
  (List.range P.length).all fun k => !Nat.ble (i + 2) k || ((Nat.beq i 0 && Nat.beq k (P.length - 1)) || !meetB (nth P i) (nth P (i + 1)) (nth P k) (nth P (k + 1)))))
theorem simpB_iff (P : List IP) : simpB P = true ↔ SimpI P := by
  unfold simpB SimpI
  simp only [List.all_eq_true, List.mem_range, Bool.and_eq_true, Bool.not_eq_true', decide_eq_false_iff_not, ← Bool.not_eq_true, betB_iff, Bool.or_eq_true, meetB_iff, Nat.beq_eq, Nat.ble_eq]
  refine forall_congr' fun i => forall_congr' fun hi => ?_
  refine and_congr (by simp) (and_congr Iff.rfl (and_congr Iff.rfl ?_))
  constructor
  · intro h k h1 h2 h3
    rcases h k h2 with h4 | h4 | h4
    · exact absurd h1 h4
    · exact absurd h4 h3
    · exact h4
  · intro h k h2
    by_cases h1 : i + 2 ≤ k
    · by_cases h3 : i = 0 ∧ k = P.length - 1
      · exact Or.inr (Or.inl h3)
      · exact Or.inr (Or.inr (h k h1 h2 h3))
    · exact Or.inl h1
def insB (s : IP) : Bool := (decide (-1048576 ≤ s.1) && decide (s.1 ≤ 1048576)) && (decide (-1048576 ≤ s.2) && decide (s.2 ≤ 1048576))
theorem insB_iff (s : IP) : insB s = true ↔ insI s.1 ∧ insI s.2 := by unfold insB insI; simp only [Bool.and_eq_true, decide_eq_true_eq]
def chkB (P : List IP) : Int := cond (Nat.blt 40 P.length) 5 (cond (Nat.blt P.length 3) 11 (cond (P.all insB) (cond (simpB P) 0 11) 3))
theorem chkB_eq (P : List IP) : chkB P = chk P := by
  unfold chkB chk
  by_cases h1 : 40 < P.length
  · rw [if_pos h1, show Nat.blt 40 P.length = true from of_eq_true (by rw [Nat.blt_eq]; simp [h1])]; rfl
  rw [if_neg h1, show Nat.blt 40 P.length = false from Bool.eq_false_iff.2 (fun h => h1 (Nat.blt_eq ▸ h))]
  by_cases h2 : P.length < 3
  · rw [if_pos h2, show Nat.blt P.length 3 = true from of_eq_true (by rw [Nat.blt_eq]; simp [h2])]; rfl
  rw [if_neg h2, show Nat.blt P.length 3 = false from Bool.eq_false_iff.2 (fun h => h2 (Nat.blt_eq ▸ h))]
  have hin : P.all insB = true ↔ InsI P := by
    unfold InsI
    rw [List.all_eq_true]
    exact forall_congr' fun s => forall_congr' fun _ => insB_iff s
  by_cases h3 : InsI P
  · rw [if_neg (fun h => h h3), hin.2 h3]
    by_cases h4 : SimpI P
    · rw [if_pos h4, (simpB_iff P).2 h4]; rfl
    · rw [if_neg h4, show simpB P = false from Bool.eq_false_iff.2 (fun h => h4 ((simpB_iff P).1 h))]; rfl
  · rw [if_pos h3, show P.all insB = false from Bool.eq_false_iff.2 (fun h => h3 (hin.1 h))]; rfl
/-- calls that are known: the test of a polygon -/
def O11 : CallF := fun f as => cond (Nat.beq f 13 || Nat.beq f 67) (match as with
  | [.val t x] => match castT t (.sl t0) x with
    | some P => some [.val tI (chkB P)]
    | none => none
  | _ => none) none
theorem O11_less : Less O11 (limC G) := by
  intro f as r h
  unfold O11 at h
  cases hb : (Nat.beq f 13 || Nat.beq f 67) with
  | false => rw [hb] at h; cases h
  | true =>
    rw [hb] at h
    simp only [cond_true] at h
    split at h
    · rename_i t x
      split at h
      · rename_i P hc
        obtain ⟨e, hx⟩ := castT_some hc
        subst e
        subst hx
        injection h with h
        subst h
        rw [chkB_eq]
        rw [Bool.or_eq_true] at hb
        rcases hb with hb | hb
        · rw [Nat.eq_of_beq_eq_true hb]; exact check_cg _
        · rw [Nat.eq_of_beq_eq_true hb]; exact rcheck_cg _
      · cases h
    · cases h
theorem run11 {f k : Nat} {as : List D} {r : R} (h : evO G O11 k f as = some r) : CG f as = some r := evO_lim O11_less k f as r h
end Pl
end
section
/- The examples of chapter 11, by running the plain reading. -/
namespace Pl
open Go Geo Pm
theorem awake11_ok : callT CG [.v .bool] 82 [] = some true := callT_of (run11 (k := 60) (r := [.val .bool true]) (by kernel_rfl)) rfl
end Pl
end
section
/- Chapter 11: the bound of the statements. -/
namespace Pl
open Go Geo Pm
theorem few_ok (P : List IP) : callT CG [.v .bool] 81 [.val (.sl t0) P] = some (decide (P.length ≤ 50)) :=
  callT_of (garmentlaw11_few_st P (r := [.val .bool (decide (P.length ≤ 50))]) (by rw [show decide ((P.length : Int) ≤ (50 : Int)) = decide (P.length ≤ 50) from decide_eq_decide.2 (by omega)])) rfl
end Pl
end
section
/- PolygonNormals: the normal form is that of the reference, for every list. -/
namespace Pl
open Go Geo Pm
theorem PolygonNormals_pure (P : List IP) (w0 : wf (.sl t0) P) : CG 84 [.val (.sl t0) P] = some [.val .bool true] := by
  refine garmentlaw11_PolygonNormals_st P (bnd (few_ok P) ?_)
  by_cases h : P.length ≤ 50
  · exact neg (by simp [h]) (bnd (pnormal_ok P) (bnd (rnormal_ok P) (bnd (same_ok (by have := nrmE_len (P := P); simp only; omega)) (pos (by simp) (pos (by simp) (bnd awake11_ok rfl))))))
  · exact pos (by simp [h]) (bnd awake11_ok rfl)
end Pl
end
