/- The closure of departures; serve. -/
import Derived.Test.YtdfikembgljpkaaW4
namespace Go.Proofs.Ytdfikembgljpkaa
open Go.RowKit

/-- Only blocks from B on have turned. -/
abbrev Up (B : Nat) : Nat → Prop := fun i => B ≤ i
theorem OwnI.nblk {w : World} {B n g : Nat} {v : Value} {ks : List Int} {t : TypeId} {cs : Array Value} (h : OwnI w B v n ks) (hg : Blk w g t cs) (ht : t ≠ 3) : ∀ j, v.ownBlock = some j → j ≠ g := by
  intro j hj e
  subst e
  rcases h.2 with ⟨rfl, _⟩ | ⟨g', cap, cur, rfl, _, hgg, _⟩
  · simp [Value.ownBlock] at hj
  · simp [Value.ownBlock] at hj
    subst hj
    unfold Blk at hg
    rw [hg] at hgg
    simp at hgg
    exact ht hgg.2
theorem OwnI.put {w : World} {B n g : Nat} {v : Value} {ks : List Int} {t : TypeId} {cs : Array Value} (h : OwnI w B v n ks) (hg : Blk w g t cs) (ht : t ≠ 3) (o : Nat) (u : Value) : OwnI (w.setCell ⟨g, o, none⟩ u) B v n ks := by
  have hne := h.nblk hg ht
  refine ⟨h.1, ?_⟩
  rcases h.2 with hn | ⟨g', cap, cur, rfl, hb, hgg, rest⟩
  · exact .inl hn
  · refine .inr ⟨g', cap, cur, rfl, hb, ?_, rest⟩
    exact (Below.heap_setCell w ⟨g, o, none⟩ u g' (hne g' rfl)).trans hgg

set_option maxHeartbeats 4000000 in
theorem tell31 (B g k : Nat) (v : Value) (ks : List Int) (a s D : Int) (w : World) (hk : k ≤ 600) (hB : B ≤ w.heap.size) (hBg : B ≤ g) (hg : Blk w g 22 #[v]) (hown : OwnI w B v k ks) :
    Calls Try.prog 31 #[.int .i64 a, .int .i64 s, .int .i64 D, .pointer (some ⟨g, 0, none⟩)] w fun e w' => e = .returned (.tuple #[]) ∧
      ∃ v', Blk w' g 22 #[v'] ∧ OwnI w' B v' (k + 1) (ks ++ [D]) ∧ Frm w w' (Up B) := by
  obtain ⟨i0, hi, hz0, hz1, hz2⟩ := info_parts int_info
  have c0 : w.cell? ⟨g, 0, none⟩ = some v := hg.cellIs rfl
  go_enter Try.func31, Try.ntmps31
  go_wp2_with (first
    | (at_builtin; refine wpList_append_own _ rfl _ _ 22 rfl B 3 i0 (.int .i64 0) 1 8 Try.underlying22 hi hz0 hz1 hz2 rfl (by decide) _ _ _ rfl (hown.alloc _) ⟨w.heap.size, 0, none⟩ 1 1 [.int .i64 D] rfl rfl ?c1 ?c2 ?c3 ?c4 ?c5 ?_)
    | go_in)
  (case c1 => (intro j u hj; match j, hj with | 0, hj => (simp at hj; subst hj; simp [Addr.add]))); (case c2 => (intro u hu; simp at hu; subst hu; rfl)); (case c3 => (unfold maxLen; omega)); (case c4 => omega); (case c5 => (simp; omega))
  intro v' w1 hown' hgrow _
  have hF : Frm w w1 (Up B) := ((Frm.refl w (Up B)).alloc (.cells #[.int .i64 D] 3)).grown hgrow (fun j hj hlt => (hown.lt j hj).1)
  have hg1 : Blk w1 g 22 #[v] := by
    have h := hg.alloc (.cells #[.int .i64 D] 3)
    unfold Blk at h ⊢
    rw [hgrow.block g (by have := hg.lt; simp; omega) (fun e => hown.nblk hg (by decide) g e.symm rfl)]
    exact h
  have hown3 : OwnI w1 B v' (k + 1) (ks ++ [D]) := by simpa [OwnI] using hown'
  obtain ⟨A', c', rfl, _⟩ := hown3.li (by omega)
  have zf := hg1.frozen 0
  have c1 : w1.cell? ⟨g, 0, none⟩ = some v := hg1.cellIs rfl
  have hg2 := hg1.put 0 (.slice A' (k + 1) c')
  have hown4 := hown3.put hg1 (by decide) 0 (.slice A' (k + 1) c')
  have hF2 := hF.put (b := g) (fun _ => hBg) 0 (.slice A' (k + 1) c')
  clear hown' hgrow
  go_wp2
  refine bodyPost_end (v := .tuple #[]) (by simp [results, Try.results31]) rfl ?_
  exact ⟨rfl, _, hg2, hown4, hF2⟩
end Go.Proofs.Ytdfikembgljpkaa
