/- The list that Perm makes, as a function on lists, and that it is a permutation. -/
namespace Go.Proofs.Ytcdadpbnmilgiaa.PrngPure

/-- Two elements exchanged. -/
def swp (l : List Int) (i k : Nat) : List Int := (l.set i (l.getD k 0)).set k (l.getD i 0)
/-- The first k of n places filled with their own numbers. -/
def fl (n k : Nat) : List Int := (List.range n).map (fun j : Nat => if j < k then (j : Int) else 0)

theorem fl_length (n k : Nat) : (fl n k).length = n := by simp [fl]
theorem fl_zero (n : Nat) : fl n 0 = List.replicate n 0 := by
  apply List.ext_getElem <;> simp [fl]
theorem fl_succ (n k : Nat) : (fl n k).set k (k : Int) = fl n (k + 1) := by
  apply List.ext_getElem
  · simp [fl]
  · intro j h1 h2
    simp only [fl, List.getElem_set, List.getElem_map, List.getElem_range]
    by_cases hj : k = j
    · subst hj; simp
    · rw [if_neg hj]
      by_cases h : j < k
      · rw [if_pos h, if_pos (by omega)]
      · rw [if_neg h, if_neg (by omega)]
theorem fl_full (n : Nat) : fl n n = (List.range n).map (fun j : Nat => (j : Int)) := by
  apply List.map_congr_left
  intro j hj
  rw [if_pos (by simpa using hj)]
theorem swp_length (l : List Int) (i k : Nat) : (swp l i k).length = l.length := by simp [swp]
theorem swp_perm (l : List Int) (i k : Nat) (hi : i < l.length) (hk : k < l.length) : (swp l i k).Perm l := by
  unfold swp
  rw [List.getD_eq_getElem?_getD, List.getD_eq_getElem?_getD, List.getElem?_eq_getElem hi, List.getElem?_eq_getElem hk]
  exact List.set_set_perm hi hk

/-- Perm's loop from i down to 1: pk says which place is exchanged with i at the step c, nx which step is the next. -/
def permGo (pk : Int → Nat → Nat) (nx : Int → Int) : Nat → Int → List Int → List Int × Int
  | 0, c, l => (l, c)
  | i + 1, c, l => permGo pk nx i (nx c) (swp l (i + 1) (pk c (i + 1)))

theorem permGo_perm (pk : Int → Nat → Nat) (nx : Int → Int) (hp : ∀ c i, i ≤ 4096 → pk c i ≤ i) : ∀ (i : Nat) (c : Int) (l : List Int), i ≤ 4096 → i < l.length ∨ i = 0 → (permGo pk nx i c l).1.Perm l
  | 0, _, _, _, _ => List.Perm.refl _
  | i + 1, c, l, h4, h => by
    have h' : i + 1 < l.length := by omega
    have hk := hp c (i + 1) h4
    exact (permGo_perm pk nx hp i (nx c) _ (by omega) (Or.inl (by rw [swp_length]; omega))).trans (swp_perm l (i + 1) _ h' (by omega))
theorem range_nodup (n : Nat) : ((List.range n).map (fun j : Nat => (j : Int))).Nodup := by
  rw [List.Nodup, List.pairwise_map]
  exact List.nodup_range.imp (fun h => by omega)
/-- What Perm returns for n numbers holds each number from 0 to n - 1 once. -/
theorem permGo_once (pk : Int → Nat → Nat) (nx : Int → Int) (hp : ∀ c i, i ≤ 4096 → pk c i ≤ i) (n : Nat) (hn : n ≤ 4096) (c : Int) :
    (permGo pk nx (n - 1) c (fl n n)).1.length = n ∧ (permGo pk nx (n - 1) c (fl n n)).1.Nodup ∧ ∀ x ∈ (permGo pk nx (n - 1) c (fl n n)).1, 0 ≤ x ∧ x < n := by
  have h := permGo_perm pk nx hp (n - 1) c (fl n n) (by omega) (by rw [fl_length]; omega)
  rw [fl_full] at h ⊢
  refine ⟨by rw [h.length_eq]; simp, h.nodup_iff.2 (range_nodup n), fun x hx => ?_⟩
  have := h.mem_iff.1 hx
  simp at this
  omega
end Go.Proofs.Ytcdadpbnmilgiaa.PrngPure
