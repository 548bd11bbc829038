/- The closure of Busy: there is an interval already. -/
import Derived.Test.YtdfikembgljpkaaW12
namespace Go.Proofs.Ytdfikembgljpkaa
open Go.RowKit

set_option maxHeartbeats 4000000 in
theorem tell30_app (B g : Nat) (v : Value) (m : List (Int × Int)) (x y a s D : Int) (w : World) (hm : m.length ≤ 600) (hB : B ≤ w.heap.size) (hBg : B ≤ g) (hg : Blk w g 28 #[v]) (hown : OwnV w B v (m ++ [(x, y)])) :
    Calls Try.prog 30 #[.int .i64 a, .int .i64 s, .int .i64 D, .pointer (some ⟨g, 0, none⟩)] w fun e w' => e = .returned (.tuple #[]) ∧
      ∃ v', Blk w' g 28 #[v'] ∧ OwnV w' B v' (stp (m ++ [(x, y)]) a D) ∧ Frm w w' (Up B) := by
  obtain ⟨i0, hi, hz0, hz1, hz2⟩ := info_parts iv_info
  obtain ⟨K, hK⟩ : ∃ K, K = m.length := ⟨_, rfl⟩
  obtain ⟨N, hN⟩ : ∃ N, N = (m ++ [(x, y)]).length := ⟨_, rfl⟩
  have hNK : N = K + 1 := by rw [hN, hK]; simp
  have hown0 : w.ownsRow B 33 2 v N (ivc (m ++ [(x, y)])) := by rw [hN]; exact hown
  obtain ⟨g', c, rfl⟩ : ∃ g' c, v = .slice (some ⟨g', 0, none⟩) N c := by
    rcases hown0.2 with ⟨_, h⟩ | ⟨g', cap, cur, e, _⟩
    · omega
    · exact ⟨g', cap, e⟩
  have c0 : w.cell? ⟨g, 0, none⟩ = some (.slice (some ⟨g', 0, none⟩) N c) := hg.cellIs rfl
  have q1 : w.cell? ⟨g', K * 2 + 1, none⟩ = some (.int .i64 y) := by rw [hown0.cellAt (K * 2 + 1) (by omega), hK]; exact (ivc_last m (x, y)).2
  have t1 : IntKind.i64.wrap ((N : Int) - 1) = (K : Int) := by rw [IntWalk.i64_in _ (by omega)]; omega
  have hk0 : (0 : Int) ≤ (K : Int) := Int.natCast_nonneg _
  have hk1 : (K : Int) < (N : Int) := by omega
  have zf := hown0.frozenAt (K * 2 + 1)
  have hgg : g' ≠ g := OwnV.nblk hown0 hg (by decide) g' rfl
  have hBg' : B ≤ g' := (hown0.lt g' rfl).1
  have HK := Lib.hid hK
  have HN := Lib.hid hN
  have HNK := Lib.hid hNK
  have hNb : N ≤ 601 := by omega
  clear hK hN hNK hown
  rw [stp_app]
  by_cases h1 : a ≤ y
  · rw [if_pos h1]
    have ho2 := (hown0.stored (K * 2 + 1) (.int .i64 D)).1
    have ho3 : OwnV (w.setCell ⟨g', K * 2 + 1, none⟩ (.int .i64 D)) B (.slice (some ⟨g', 0, none⟩) N c) (m ++ [(x, D)]) := by
      have e := ivc_set m x y D
      rw [← HK.out] at e
      rw [e] at ho2
      have e2 : (m ++ [(x, D)]).length = N := by rw [HN.out]; simp
      unfold OwnV
      rw [e2]
      exact ho2
    have hg2 := hg.away (b := g') (fun e => hgg e.symm) (K * 2 + 1) (.int .i64 D)
    have hF2 := (Frm.refl w (Up B)).put (b := g') (fun _ => hBg') (K * 2 + 1) (.int .i64 D)
    clear ho2
    go_enter Try.func30, Try.ntmps30
    go_wp2
    refine bodyPost_end (v := .tuple #[]) (by simp [results, Try.results30]) rfl ?_
    exact ⟨rfl, _, hg2, ho3, hF2⟩
  · rw [if_neg h1]
    by_cases hD : a < D
    · rw [if_pos hD]
      go_enter Try.func30, Try.ntmps30
      go_wp2_with (first
        | (at_builtin; refine wpList_append_own _ rfl _ _ 28 rfl B 33 i0 (.agg #[.int .i64 0, .int .i64 0]) 2 16 Try.underlying28 hi hz0 hz1 hz2 rfl (by decide) _ _ _ rfl (hown0.alloc _) ⟨w.heap.size, 0, none⟩ 1 1 [.int .i64 a, .int .i64 D] rfl rfl ?c1 ?c2 ?c3 ?c4 ?c5 ?_)
        | go_in)
      (try (case c1 => (intro j u hj; match j, hj with | 0, hj => (simp at hj; subst hj; simp [Addr.add]) | 1, hj => (simp at hj; subst hj; simp [Addr.add])))); (case c2 => first | (intro u hu; simp at hu; rcases hu with rfl | rfl <;> rfl) | exact ⟨rfl, rfl⟩); (case c3 => (unfold maxLen; omega)); (case c4 => omega); (case c5 => first | omega | (simp; omega))
      intro v' w1 hown' hgrow _
      have hF : Frm w w1 (Up B) := ((Frm.refl w (Up B)).alloc (.cells #[.int .i64 a, .int .i64 D] 33)).grown hgrow (fun j hj hlt => (hown0.lt j hj).1)
      have hg1 : Blk w1 g 28 #[.slice (some ⟨g', 0, none⟩) N c] := by
        have h := hg.alloc (.cells #[.int .i64 a, .int .i64 D] 33)
        unfold Blk at h ⊢
        rw [hgrow.block g (by have := hg.lt; simp; omega) (fun e => OwnV.nblk hown0 hg (by decide) g e.symm rfl)]
        exact h
      have hown3 : w1.ownsRow B 33 2 v' (N + 1) (ivc (m ++ [(x, y)] ++ [(a, D)])) := by rw [ivc_app]; simpa [ivc] using hown'
      obtain ⟨A', c', rfl⟩ := OwnV.form hown3
      have zf := hg1.frozen 0
      have c1 : w1.cell? ⟨g, 0, none⟩ = some (.slice (some ⟨g', 0, none⟩) N c) := hg1.cellIs rfl
      have hg2 := hg1.put 0 (.slice A' (N + 1) c')
      have hown4 := OwnV.put hown3 hg1 (by decide) 0 (.slice A' (N + 1) c')
      have hF2 := hF.put (b := g) (fun _ => hBg) 0 (.slice A' (N + 1) c')
      clear hown' hgrow
      go_wp2
      refine bodyPost_end (v := .tuple #[]) (by simp [results, Try.results30]) rfl ?_
      refine ⟨rfl, _, hg2, ?_, hF2⟩
      have e2 : (m ++ [(x, y)] ++ [(a, D)]).length = N + 1 := by rw [HN.out]; simp
      unfold OwnV
      rw [e2]
      exact hown4
    · rw [if_neg hD]
      go_enter Try.func30, Try.ntmps30
      go_wp2
      refine bodyPost_end (v := .tuple #[]) (by simp [results, Try.results30]) rfl ?_
      refine ⟨rfl, _, hg, ?_, Frm.refl w _⟩
      unfold OwnV
      rw [← HN.out]
      exact hown0
end Go.Proofs.Ytdfikembgljpkaa
