/- StabilityEnds: the plain law. -/
import Derived.Test.YthpakpljfgmkfaaW39
namespace Go.Proofs.Ythpakpljfgmkfaa
open Go.RowKit

theorem dN_dN {p q : Nat} (hp : 0 < p) (hq : 0 < q) (N : Nat) : dN q (dN p N) = dN (p * q) N := by
  have h : dN p N + q - 1 = (N + p * q - 1) / p := by
    unfold dN
    obtain ⟨r, rfl⟩ : ∃ r, q = r + 1 := ⟨q - 1, by omega⟩
    have e : N + p * (r + 1) - 1 = N + p - 1 + p * r := by rw [Nat.mul_add]; omega
    rw [e, Nat.add_mul_div_left _ _ hp]
    generalize (N + p - 1) / p = t
    omega
  have e2 : dN q (dN p N) = (dN p N + q - 1) / q := rfl
  rw [e2, h, Nat.div_div_eq_div_mul]
  rfl
theorem dN_lt {p : Nat} (hp : 0 < p) {N j : Nat} (h : j < dN p N) : j * p < N := by
  have h1 : (j + 1) * p ≤ N + p - 1 := (Nat.le_div_iff_mul_le hp).1 h
  rw [Nat.add_mul, Nat.one_mul] at h1
  omega
theorem dN_pos {p : Nat} (hp : 0 < p) {N : Nat} (h : 0 < N) : 0 < dN p N := Nat.div_pos (by omega) hp
theorem dL_dL (xs : List Int) {p q : Nat} (hp : 0 < p) (hq : 0 < q) (N : Nat) : dL (dL xs p N) q (dN p N) = dL xs (p * q) N := by
  have e1 : dL (dL xs p N) q (dN p N) = (List.range (dN q (dN p N))).map fun j => (dL xs p N).getD (j * q) 0 := rfl
  have e2 : dL xs (p * q) N = (List.range (dN (p * q) N)).map fun j => xs.getD (j * (p * q)) 0 := rfl
  rw [e1, e2, ← dN_dN hp hq]
  apply List.map_congr_left
  intro j hj
  rw [List.mem_range] at hj
  rw [dL_get _ _ _ _ (dN_lt hq hj), Nat.mul_assoc, Nat.mul_comm q p]
theorem dL_chk {xs : List Int} (h : chk xs = 0) {p : Nat} (hp : 0 < p) : chk (dL xs p xs.length) = 0 := by
  obtain ⟨h1, h2⟩ := chk_zero h
  have hle := dN_le hp xs.length
  refine chk_ok (by rw [dL_len]; omega) (fun j hj => ?_)
  rw [dL_len] at hj
  rw [dL_get _ _ _ _ hj]
  exact h2 _ (dN_lt hp hj)
/-- The first k elements are one greater. -/
def incL (ds : List Int) (k : Nat) : List Int := (List.range ds.length).map fun j => if j < k then ds.getD j 0 + 1 else ds.getD j 0
theorem incL_len (ds : List Int) (k : Nat) : (incL ds k).length = ds.length := by simp [incL]
theorem incL_zero (ds : List Int) : incL ds 0 = ds := by
  apply List.ext_getElem
  · simp [incL]
  · intro j h1 h2
    simp [incL, h2]
theorem incL_get (ds : List Int) (k : Nat) (hk : k < ds.length) : (incL ds k).getD k 0 = ds.getD k 0 := by simp [incL, List.getD, List.getElem?_range hk]
theorem incL_set (ds : List Int) (k : Nat) : (incL ds k).set k (ds.getD k 0 + 1) = incL ds (k + 1) := by
  apply List.ext_getElem
  · simp [incL]
  · intro j h1 h2
    by_cases e : k = j
    · subst e; simp [incL]
    · rw [List.getElem_set_ne e]
      simp only [incL, List.getElem_map, List.getElem_range]
      by_cases h : j < k
      · rw [if_pos h, if_pos (by omega)]
      · rw [if_neg h, if_neg (by omega)]
theorem dtV_get (xs : List Int) (j : Nat) (h : j < xs.length) : (dtV xs).getD j 0 = dtr xs j := by simp [dtV, List.getD, List.getElem?_range h]
theorem dtr_zero (xs : List Int) : dtr xs 0 = 0 := by
  unfold dtr
  have e : ((0 : Nat) : Int) = 0 := rfl
  rw [e, Int.mul_zero, Int.zero_ediv]
  omega
theorem dtr_last (xs : List Int) (h : 2 ≤ xs.length) : dtr xs (xs.length - 1) = 0 := by
  unfold dtr
  rw [Int.mul_ediv_cancel _ (by omega)]
  omega
/-- Above the line by less than 1. -/
theorem dtr_rest (x0 xm F P m : Int) (hP : F = P / m) (hm : 0 < m) : 0 ≤ m * (-F) + P ∧ m * (-F) + P < m ∧ m * (-F) = P % m - P ∧ xm - x0 = xm - x0 := by
  have h1 := Int.emod_nonneg P (show m ≠ 0 by omega)
  have h2 := Int.emod_lt_of_pos P hm
  have h3 := Int.emod_def P m
  rw [← hP] at h3
  rw [Int.mul_neg]
  refine ⟨by omega, by omega, by omega, rfl⟩
/-- A write into another block. -/
theorem LI.put {w : World} {A : Option Addr} {n B g : Nat} {xs : List Int} (h : LI w A n B xs) (hg : B ≤ g) (o : Nat) (u : Value) : LI (w.setCell ⟨g, o, none⟩ u) A n B xs :=
  h.frmg ((Frm.refl w (· = g)).put (b := g) (fun _ => rfl) o u) hg
theorem OwnI.frmS {w w' : World} {B n : Nat} {v : Value} {ks : List Int} {S : Nat → Prop} (h : OwnI w B v n ks) (f : Frm w w' S) (hs : ∀ j, v.ownBlock = some j → ¬ S j) : OwnI w' B v n ks := by
  refine ⟨h.1, ?_⟩
  rcases h.2 with e | ⟨g, cap, cur, rfl, hb, hg, hle, hcap, hsz, htk⟩
  · exact .inl e
  · have hlt : g < w.heap.size := by
      rcases Nat.lt_or_ge g w.heap.size with h | h
      · exact h
      · rw [Array.getElem?_eq_none h] at hg; cases hg
    exact .inr ⟨g, cap, cur, rfl, hb, (f.block g hlt (hs g rfl)).trans hg, hle, hcap, hsz, htk⟩
theorem OwnI.put {w : World} {B n g : Nat} {v : Value} {ks : List Int} (h : OwnI w B v n ks) (hg : ∀ j, v.ownBlock = some j → j ≠ g) (o : Nat) (u : Value) : OwnI (w.setCell ⟨g, o, none⟩ u) B v n ks :=
  h.frmS ((Frm.refl w (· = g)).put (b := g) (fun _ => rfl) o u) hg
end Go.Proofs.Ythpakpljfgmkfaa
