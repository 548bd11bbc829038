/- The busy intervals, in plain terms. -/
import Derived.Test.YtdfikembgljpkaaW32
namespace Go.Proofs.Ytdfikembgljpkaa
open Go.RowKit

/-- The sum of the lengths of intervals. -/
def tot (l : List (Int × Int)) : Int := (l.map (fun p => p.2 - p.1)).sum
theorem tot_app (l : List (Int × Int)) (p : Int × Int) : tot (l ++ [p]) = tot l + (p.2 - p.1) := by simp [tot]
/-- The sum of the first k services. -/
def svc (ys : List Int) : Nat → Int
  | 0 => 0
  | k + 1 => svc ys k + ys.getD k 0
theorem svc_bounds {xs ys : List Int} {lim : Int} {n : Nat} (h : oks xs ys lim n) : ∀ k, k ≤ n → 0 ≤ svc ys k ∧ svc ys k ≤ 10000000000 * k
  | 0, _ => ⟨by show (0 : Int) ≤ 0; decide, by show (0 : Int) ≤ _; omega⟩
  | k + 1, hk => by
    have ih := svc_bounds h k (by omega)
    have := h k (by omega)
    unfold svc
    omega
/-- What holds of the intervals after k messages. -/
structure BI (xs ys : List Int) (k : Nat) (L : List (Int × Int)) : Prop where
  pos : ∀ p ∈ L, p.1 < p.2
  apart : ∀ a b p q, L = a ++ p :: q :: b → p.2 < q.1
  sum : tot L = svc ys k
  cover : ∀ t, (∃ p ∈ L, p.1 ≤ t ∧ t < p.2) ↔ (∃ j, j < k ∧ xs.getD j 0 ≤ t ∧ t < dl xs ys (j + 1))
  none : k = 0 → L = []
  last : 0 < k → ∀ m p, L = m ++ [p] → p.1 ≤ xs.getD (k - 1) 0 ∧ (p.2 = dl xs ys k ∨ (dl xs ys k = xs.getD (k - 1) 0 ∧ p.2 < dl xs ys k))
  nil : 0 < k → L = [] → dl xs ys k = xs.getD (k - 1) 0
theorem app_split {α : Type} {m a b : List α} {z p q : α} (h : m ++ [z] = a ++ p :: q :: b) : (b = [] ∧ m = a ++ [p] ∧ z = q) ∨ ∃ b', m = a ++ p :: q :: b' := by
  rcases List.eq_nil_or_concat b with rfl | ⟨b', y, rfl⟩
  · left
    have : m ++ [z] = (a ++ [p]) ++ [q] := by simpa using h
    have := List.append_inj' this rfl
    exact ⟨rfl, this.1, by simpa using this.2⟩
  · right
    have : m ++ [z] = (a ++ p :: q :: b') ++ [y] := by simpa using h
    exact ⟨b', (List.append_inj' this rfl).1⟩
theorem cover_step {k : Nat} {P : Nat → Prop} {A B : Prop} (h : A ↔ ∃ j, j < k ∧ P j) (hB : B ↔ P k) : (A ∨ B) ↔ ∃ j, j < k + 1 ∧ P j := by
  constructor
  · rintro (a | b)
    · obtain ⟨j, hj, hp⟩ := h.1 a
      exact ⟨j, by omega, hp⟩
    · exact ⟨k, by omega, hB.1 b⟩
  · rintro ⟨j, hj, hp⟩
    rcases Nat.lt_or_ge j k with h1 | h1
    · exact .inl (h.2 ⟨j, h1, hp⟩)
    · obtain rfl : j = k := by omega
      exact .inr (hB.2 hp)
theorem bi_step {xs ys : List Int} {k : Nat} {L : List (Int × Int)} (h : BI xs ys k L) (hs : 0 < k → xs.getD (k - 1) 0 ≤ xs.getD k 0) (h0 : 0 ≤ xs.getD k 0) (hy : 0 ≤ ys.getD k 0) :
    BI xs ys (k + 1) (stp L (xs.getD k 0) (dl xs ys (k + 1))) := by
  have hd : dl xs ys (k + 1) = mx (xs.getD k 0) (dl xs ys k) + ys.getD k 0 := rfl
  have hsv : svc ys (k + 1) = svc ys k + ys.getD k 0 := rfl
  have hc := fun t => h.cover t
  obtain ⟨a, ha⟩ : ∃ a, a = xs.getD k 0 := ⟨_, rfl⟩
  obtain ⟨s, hsq⟩ : ∃ s, s = ys.getD k 0 := ⟨_, rfl⟩
  obtain ⟨D, hD⟩ : ∃ D, D = dl xs ys (k + 1) := ⟨_, rfl⟩
  obtain ⟨d0, hd0⟩ : ∃ d, d = dl xs ys k := ⟨_, rfl⟩
  rw [← ha, ← hsq, ← hD, ← hd0] at hd
  rw [← hsq] at hsv hy
  rw [← ha] at hs h0 ⊢
  rw [← hD]
  have hP : ∀ t, (xs.getD k 0 ≤ t ∧ t < dl xs ys (k + 1)) ↔ (a ≤ t ∧ t < D) := fun t => by rw [← ha, ← hD]
  rcases List.eq_nil_or_concat L with rfl | ⟨m, p, rfl⟩
  · have hd1 : d0 ≤ a := by
      rcases Nat.eq_zero_or_pos k with rfl | hk
      · rw [hd0]; exact h0
      · rw [hd0, h.nil hk rfl]; exact hs hk
    have hDa : D = a + s := by rw [hd]; unfold mx; rw [if_neg (by omega)]
    have hsum := h.sum
    rw [stp_nil]
    by_cases haD : a < D
    · rw [if_pos haD]
      refine ⟨fun p hp => by simp at hp; subst hp; exact haD, fun x y p q e => ?_, ?_, fun t => ?_, fun h => by omega, fun _ m p e => ?_, fun _ h => by cases h⟩
      · rcases x with _ | ⟨x1, x2⟩ <;> simp at e
      · rw [hsv]; simp [tot] at hsum ⊢; omega
      · have := cover_step (hc t) ((hP t).symm)
        rw [← this]
        simp
      · rcases m with _ | ⟨m1, m2⟩ <;> simp at e
        subst e
        exact ⟨by simpa using Int.le_of_eq ha, .inl hD⟩
    · rw [if_neg haD]
      refine ⟨fun p hp => by simp at hp, fun x y p q e => ?_, ?_, fun t => ?_, fun _ => rfl, fun _ m p e => ?_, fun _ _ => ?_⟩
      · rcases x with _ | ⟨x1, x2⟩ <;> simp at e
      · rw [hsv]; simp [tot] at hsum ⊢; omega
      · have := cover_step (hc t) ((hP t).symm)
        rw [← this]
        simp
        omega
      · rcases m with _ | ⟨m1, m2⟩ <;> simp at e
      · rw [← hD]; show D = xs.getD k 0; rw [← ha]; omega
  · obtain ⟨x, y⟩ := p
    rw [List.concat_eq_append] at h hc ⊢
    have hk : 0 < k := by
      rcases Nat.eq_zero_or_pos k with h1 | h1
      · have := h.none h1; simp at this
      · exact h1
    obtain ⟨l1, l2⟩ := h.last hk m (x, y) rfl
    have hxy : x < y := h.pos (x, y) (by simp)
    have hsk := hs hk
    rw [← hd0] at l2
    simp only at l1 l2
    have hsum := h.sum
    rw [tot_app] at hsum
    simp only at hsum
    rw [stp_app]
    by_cases hay : a ≤ y
    · rw [if_pos hay]
      have hy0 : y = d0 := by
        rcases l2 with h | ⟨h, h'⟩
        · exact h
        · omega
      have hDy : D = y + s := by
        rw [hd]; unfold mx
        by_cases e : a < d0
        · rw [if_pos e]; omega
        · rw [if_neg e]; omega
      refine ⟨fun p hp => ?_, fun u v p q e => ?_, ?_, fun t => ?_, fun h => by omega, fun _ m' p e => ?_, fun _ h => by simp at h⟩
      · rcases List.mem_append.1 hp with hp | hp
        · exact h.pos p (List.mem_append_left _ hp)
        · simp at hp; subst hp; show x < D; omega
      · rcases app_split e with ⟨rfl, e1, e2⟩ | ⟨b', e1⟩
        · have := h.apart u [] p (x, y) (by rw [e1]; simp)
          rw [← e2]; exact this
        · exact h.apart u (b' ++ [(x, y)]) p q (by rw [e1]; simp)
      · rw [tot_app, hsv]; simp only; omega
      · have := cover_step (hc t) ((hP t).symm)
        rw [← this]
        constructor
        · rintro ⟨p, hp, h1, h2⟩
          rcases List.mem_append.1 hp with hp | hp
          · exact .inl ⟨p, List.mem_append_left _ hp, h1, h2⟩
          · simp at hp; subst hp
            simp only at h1 h2
            by_cases hty : t < y
            · exact .inl ⟨(x, y), by simp, h1, hty⟩
            · exact .inr ⟨by omega, h2⟩
        · rintro (⟨p, hp, h1, h2⟩ | ⟨h1, h2⟩)
          · rcases List.mem_append.1 hp with hp | hp
            · exact ⟨p, List.mem_append_left _ hp, h1, h2⟩
            · simp at hp; subst hp
              simp only at h1 h2
              exact ⟨(x, D), by simp, h1, by show t < D; omega⟩
          · exact ⟨(x, D), by simp, by show x ≤ t; omega, h2⟩
      · have := List.append_inj' e rfl
        simp at this
        obtain ⟨_, rfl⟩ := this
        rw [← hD]
        exact ⟨by show x ≤ xs.getD k 0; omega, .inl rfl⟩
    · rw [if_neg hay]
      have hDa : D = a + s := by
        rw [hd]; unfold mx
        rw [if_neg (by rcases l2 with h | ⟨h, h'⟩ <;> omega)]
      by_cases haD : a < D
      · rw [if_pos haD]
        refine ⟨fun p hp => ?_, fun u v p q e => ?_, ?_, fun t => ?_, fun h => by omega, fun _ m' p e => ?_, fun _ h => by simp at h⟩
        · rcases List.mem_append.1 hp with hp | hp
          · exact h.pos p hp
          · simp at hp; subst hp; exact haD
        · rcases app_split e with ⟨rfl, e1, e2⟩ | ⟨b', e1⟩
          · have := List.append_inj' e1 rfl
            simp at this
            rw [← e2, ← this.2]; show y < a; omega
          · exact h.apart u b' p q e1
        · rw [tot_app, tot_app, hsv]; simp only; omega
        · have := cover_step (hc t) ((hP t).symm)
          rw [← this]
          constructor
          · rintro ⟨p, hp, h1, h2⟩
            rcases List.mem_append.1 hp with hp | hp
            · exact .inl ⟨p, hp, h1, h2⟩
            · simp at hp; subst hp; exact .inr ⟨h1, h2⟩
          · rintro (⟨p, hp, h1, h2⟩ | ⟨h1, h2⟩)
            · exact ⟨p, List.mem_append_left _ hp, h1, h2⟩
            · exact ⟨(a, D), by simp, h1, h2⟩
        · have := List.append_inj' e rfl
          simp at this
          obtain ⟨_, rfl⟩ := this
          rw [← hD]
          exact ⟨by show a ≤ xs.getD k 0; omega, .inl rfl⟩
      · rw [if_neg haD]
        refine ⟨h.pos, h.apart, ?_, fun t => ?_, fun h => by omega, fun _ m' p e => ?_, fun _ h => by simp at h⟩
        · rw [tot_app, hsv]; simp only; omega
        · have := cover_step (hc t) ((hP t).symm)
          rw [← this]
          constructor
          · intro h; exact .inl h
          · rintro (h | ⟨h1, h2⟩)
            · exact h
            · omega
        · have := List.append_inj' e rfl
          simp at this
          obtain ⟨_, rfl⟩ := this
          rw [← hD]
          exact ⟨by show x ≤ xs.getD k 0; omega, .inr ⟨by show D = xs.getD k 0; omega, by show y < D; omega⟩⟩
theorem bi_all {xs ys : List Int} {lim : Int} {n : Nat} (h : oks xs ys lim n) (hs : srt xs n) : ∀ k, k ≤ n → BI xs ys k (bsy xs ys k)
  | 0, _ => ⟨fun p hp => by simp [bsy] at hp, fun a b p q e => by simp [bsy] at e, rfl, fun t => by simp [bsy], fun _ => rfl, fun h => by omega, fun h => by omega⟩
  | k + 1, hk => by
    have ih := bi_all h hs k (by omega)
    refine bi_step ih (fun hk0 => ?_) (h k (by omega)).1 (h k (by omega)).2.2.1
    have := hs (k - 1) (by omega)
    rwa [Nat.sub_add_cancel hk0] at this
end Go.Proofs.Ytdfikembgljpkaa
