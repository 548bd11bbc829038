/- The chapter's examples: the values of the model. -/
import Derived.Test.YtdfikembgljpkaaW19
namespace Go.Proofs.Ytdfikembgljpkaa
open Go.RowKit

theorem OwnV.lv {w : World} {B : Nat} {v : Value} {l : List (Int × Int)} (h : OwnV w B v l) (hn : l.length ≤ 17592186044416) : ∃ A c, v = .slice A l.length c ∧ LV w A l.length w.heap.size l := by
  rcases h.2 with ⟨rfl, e⟩ | ⟨g, cap, cur, rfl, hb, hg, hle, hcap, hsz, htk⟩
  · have e0 : l = [] := List.length_eq_zero_iff.1 (by omega)
    subst e0
    exact ⟨none, 0, rfl, ⟨Nat.zero_le _, rfl, fun h0 => absurd h0 (by simp), Nat.le_refl _⟩⟩
  · have hlt : g < w.heap.size := by
      rcases Nat.lt_or_ge g w.heap.size with h | h
      · exact h
      · rw [Array.getElem?_eq_none h] at hg; cases hg
    have hc : ∀ j, j < l.length → (ivc l)[j * 2]? = some (.int .i64 (l.getD j (0, 0)).1) ∧ (ivc l)[j * 2 + 1]? = some (.int .i64 (l.getD j (0, 0)).2) := by
      intro j hj
      obtain ⟨m, p, r, e, hm⟩ : ∃ m p r, l = m ++ p :: r ∧ m.length = j := ⟨l.take j, l[j], l.drop (j + 1), by simp, by simp; omega⟩
      subst hm
      subst e
      have e1 : ivc (m ++ p :: r) = ivc m ++ (.int .i64 p.1 :: .int .i64 p.2 :: ivc r) := by simp [ivc]
      rw [e1]
      constructor
      · rw [List.getElem?_append_right (by rw [ivc_len]; omega), ivc_len, Nat.sub_self]; simp
      · rw [List.getElem?_append_right (by rw [ivc_len]; omega), ivc_len, Nat.add_sub_cancel_left]; simp
    refine ⟨_, cap, rfl, ⟨hn, rfl, fun _ => ⟨g, 0, rfl, hlt, fun j hj => ?_⟩, Nat.le_refl _⟩⟩
    obtain ⟨a, b⟩ := hc j hj
    have z1 : j * 2 < (ivc l).length := by rw [ivc_len]; omega
    have z2 : j * 2 + 1 < (ivc l).length := by rw [ivc_len]; omega
    refine ⟨?_, ?_⟩
    · rw [Nat.zero_add, h.cellAt _ (by omega), ← a, List.getElem?_eq_getElem z1]
    · rw [Nat.zero_add, h.cellAt _ (by omega), ← b, List.getElem?_eq_getElem z2]

theorem LI.new (w : World) (ks : List Int) (hk : ks.length ≤ 17592186044416) : LI (w.alloc (.cells (cel ks) 3)) (some ⟨w.heap.size, 0, none⟩) ks.length (w.heap.size + 1) ks :=
  ⟨hk, rfl, RdI.of_blk (Blk.new w 3 (cel ks)), by simp⟩

def exA : List Int := [0, 1, 10]
def exS : List Int := [5, 5, 2]
theorem ex_chk : chk exA exS 1125899906842624 = 0 := by
  refine chk_ok rfl (by decide) (fun j hj => ?_) (fun j hj => ?_)
  · match j, hj with
    | 0, _ => decide
    | 1, _ => decide
    | 2, _ => decide
  · match j, hj with
    | 0, _ => decide
    | 1, _ => decide
theorem ex_chk2 : chk (deps exA exS 3) exS big = 0 := by
  refine chk_ok rfl (by decide) (fun j hj => ?_) (fun j hj => ?_)
  · match j, hj with
    | 0, _ => decide
    | 1, _ => decide
    | 2, _ => decide
  · match j, hj with
    | 0, _ => decide
    | 1, _ => decide
theorem ex_pV : pV exA exS = [5, 10, 12] := by unfold pV; rw [if_pos ex_chk]; decide
theorem ex_wV : wV exA exS = [0, 4, 0] := by unfold wV; rw [if_pos ex_chk]; decide
theorem ex_bV : bV exA exS = [(0, 12)] := by unfold bV; rw [if_pos ex_chk]; decide
theorem ex_good : goodk big exA [exS, exS] 2 := fun j hj => by
  match j, hj with
  | 0, _ => exact ex_chk
  | 1, _ => exact ex_chk2
theorem ex_ferr : ferr big exA [exS, exS] 2 = 0 := ferr_good 2 ex_good
theorem ex_arr : arrk exA [exS, exS] 2 = [10, 15, 17] := by decide
theorem ex_b4 : blg exA [5, 10, 12] 4 3 = 2 := by decide
theorem ex_b10 : blg exA [5, 10, 12] 10 3 = 1 := by decide
end Go.Proofs.Ytdfikembgljpkaa
