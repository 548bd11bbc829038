/- The closure of Busy. -/
import Derived.Test.YtdfikembgljpkaaW11
namespace Go.Proofs.Ytdfikembgljpkaa
open Go.RowKit

theorem OwnV.nblk {w : World} {B g n : Nat} {v : Value} {xs : List Value} {t : TypeId} {cs : Array Value} (h : w.ownsRow B 33 2 v n xs) (hg : Blk w g t cs) (ht : t ≠ 33) : ∀ j, v.ownBlock = some j → j ≠ g := by
  intro j hj e
  subst e
  rcases h.2 with ⟨rfl, _⟩ | ⟨g', cap, cur, rfl, _, hgg, _⟩
  · simp [Value.ownBlock] at hj
  · simp [Value.ownBlock] at hj
    subst hj
    unfold Blk at hg
    rw [hg] at hgg
    simp at hgg
    exact ht hgg.2
theorem OwnV.put {w : World} {B g n : Nat} {v : Value} {xs : List Value} {t : TypeId} {cs : Array Value} (h : w.ownsRow B 33 2 v n xs) (hg : Blk w g t cs) (ht : t ≠ 33) (o : Nat) (u : Value) : (w.setCell ⟨g, o, none⟩ u).ownsRow B 33 2 v n xs := by
  have hne := OwnV.nblk h hg ht
  refine ⟨h.1, ?_⟩
  rcases h.2 with hn | ⟨g', cap, cur, rfl, hb, hgg, rest⟩
  · exact .inl hn
  · refine .inr ⟨g', cap, cur, rfl, hb, ?_, rest⟩
    exact (Below.heap_setCell w ⟨g, o, none⟩ u g' (hne g' rfl)).trans hgg
theorem OwnV.form {w : World} {B n : Nat} {v : Value} {xs : List Value} (h : w.ownsRow B 33 2 v n xs) : ∃ A c, v = .slice A n c := by
  rcases h.2 with ⟨rfl, rfl⟩ | ⟨g, cap, cur, rfl, _⟩
  · exact ⟨_, _, rfl⟩
  · exact ⟨_, _, rfl⟩

set_option maxHeartbeats 4000000 in
theorem tell30_nil (B g : Nat) (v : Value) (a s D : Int) (w : World) (hB : B ≤ w.heap.size) (hBg : B ≤ g) (hg : Blk w g 28 #[v]) (hown : OwnV w B v []) :
    Calls Try.prog 30 #[.int .i64 a, .int .i64 s, .int .i64 D, .pointer (some ⟨g, 0, none⟩)] w fun e w' => e = .returned (.tuple #[]) ∧
      ∃ v', Blk w' g 28 #[v'] ∧ OwnV w' B v' (stp [] a D) ∧ Frm w w' (Up B) := by
  obtain ⟨i0, hi, hz0, hz1, hz2⟩ := info_parts iv_info
  obtain ⟨A, c, rfl⟩ := OwnV.form hown
  have hown0 : w.ownsRow B 33 2 (.slice A 0 c) 0 [] := hown
  have c0 : w.cell? ⟨g, 0, none⟩ = some (.slice A 0 c) := hg.cellIs rfl
  rw [stp_nil]
  by_cases hD : a < D
  · rw [if_pos hD]
    go_enter Try.func30, Try.ntmps30
    go_wp2_with (first
      | (at_builtin; refine wpList_append_own _ rfl _ _ 28 rfl B 33 i0 (.agg #[.int .i64 0, .int .i64 0]) 2 16 Try.underlying28 hi hz0 hz1 hz2 rfl (by decide) _ _ _ rfl (hown0.alloc _) ⟨w.heap.size, 0, none⟩ 1 1 [.int .i64 a, .int .i64 D] rfl rfl ?c1 ?c2 ?c3 ?c4 ?c5 ?_)
      | go_in)
    (case c1 => (intro j u hj; match j, hj with | 0, hj => (simp at hj; subst hj; simp [Addr.add]) | 1, hj => (simp at hj; subst hj; simp [Addr.add]))); (case c2 => (intro u hu; simp at hu; rcases hu with rfl | rfl <;> rfl)); (case c3 => (unfold maxLen; omega)); (case c4 => omega); (case c5 => (simp; omega))
    intro v' w1 hown' hgrow _
    have hF : Frm w w1 (Up B) := ((Frm.refl w (Up B)).alloc (.cells #[.int .i64 a, .int .i64 D] 33)).grown hgrow (fun j hj hlt => (hown0.lt j hj).1)
    have hg1 : Blk w1 g 28 #[.slice A 0 c] := by
      have h := hg.alloc (.cells #[.int .i64 a, .int .i64 D] 33)
      unfold Blk at h ⊢
      rw [hgrow.block g (by have := hg.lt; simp; omega) (fun e => OwnV.nblk hown0 hg (by decide) g e.symm rfl)]
      exact h
    have hown3 : OwnV w1 B v' [(a, D)] := by simpa [OwnV, ivc] using hown'
    obtain ⟨A', c', rfl⟩ := OwnV.form hown3
    have zf := hg1.frozen 0
    have c1 : w1.cell? ⟨g, 0, none⟩ = some (.slice A 0 c) := hg1.cellIs rfl
    have hg2 := hg1.put 0 (.slice A' 1 c')
    have hown4 := OwnV.put hown3 hg1 (by decide) 0 (.slice A' 1 c')
    have hF2 := hF.put (b := g) (fun _ => hBg) 0 (.slice A' 1 c')
    clear hown' hgrow
    go_wp2
    refine bodyPost_end (v := .tuple #[]) (by simp [results, Try.results30]) rfl ?_
    exact ⟨rfl, _, hg2, hown4, hF2⟩
  · rw [if_neg hD]
    go_enter Try.func30, Try.ntmps30
    go_wp2
    refine bodyPost_end (v := .tuple #[]) (by simp [results, Try.results30]) rfl ?_
    exact ⟨rfl, _, hg, hown, Frm.refl w _⟩
end Go.Proofs.Ytdfikembgljpkaa
