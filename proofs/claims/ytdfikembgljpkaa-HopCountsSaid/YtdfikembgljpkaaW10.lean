/- Waits of the reference. -/
import Derived.Test.YtdfikembgljpkaaW9
import Derived.StillTailTactics
namespace Go.Proofs.Ytdfikembgljpkaa
open Go.RowKit

/-- The list of Waits after k of its n rounds. -/
def mid (xs ys : List Int) (n k : Nat) : List Int := (List.range n).map (fun j => if j < k then dl xs ys (j + 1) - ys.getD j 0 - xs.getD j 0 else dl xs ys (j + 1))
theorem mid_len (xs ys : List Int) (n k : Nat) : (mid xs ys n k).length = n := by simp [mid]
theorem mid_zero (xs ys : List Int) (n : Nat) : mid xs ys n 0 = deps xs ys n := by simp [mid, deps]
theorem mid_all (xs ys : List Int) (n : Nat) : mid xs ys n n = wts xs ys n := by
  unfold mid wts
  apply List.map_congr_left
  intro j hj
  rw [if_pos (List.mem_range.1 hj)]
theorem mid_at (xs ys : List Int) (n k : Nat) (h : k < n) : (mid xs ys n k)[k]? = some (dl xs ys (k + 1)) := by
  simp [mid, List.getElem?_range h]
theorem mid_set (xs ys : List Int) (n k : Nat) : (mid xs ys n k).set k (dl xs ys (k + 1) - ys.getD k 0 - xs.getD k 0) = mid xs ys n (k + 1) := by
  apply List.ext_getElem (by simp [mid])
  intro j h1 h2
  simp only [mid_len, List.length_set] at h1 h2
  rw [List.getElem_set]
  simp only [mid, List.getElem_map, List.getElem_range]
  by_cases e : k = j
  · subst e; simp
  · rw [if_neg e]
    by_cases hj : j < k
    · rw [if_pos hj, if_pos (by omega)]
    · rw [if_neg hj, if_neg (by omega)]

section
variable (A A2 : Option Addr) (n n2 c c2 B : Nat) (xs ys : List Int) (w : World)
set_option maxHeartbeats 8000000 in
theorem rWaits_t (hX : LI w A n B xs) (hY : LI w A2 n2 B ys) :
    Calls Try.prog 15 #[.slice A n c, .slice A2 n2 c2] w fun e w' => ∃ v, e = .returned (.tuple #[v, .int .i64 (chk xs ys 1125899906842624)]) ∧ OwnI w' w.heap.size v (wV xs ys).length (wV xs ys) ∧ Frm w w' NoB := by
  have hP := rPass_t A A2 n n2 c c2 B xs ys w hX hY
  obtain ⟨e0, he⟩ : ∃ e, chk xs ys 1125899906842624 = e := ⟨_, rfl⟩
  rw [he] at hP ⊢
  by_cases h0 : e0 = 0
  · subst h0
    obtain ⟨h1, h2, h3, h4⟩ := chk_zero he
    have hp : wV xs ys = wts xs ys n := by unfold wV; rw [if_pos he, hX.HN]
    have hp2 : pV xs ys = deps xs ys n := by unfold pV; rw [if_pos he, hX.HN]
    have hnn : n = n2 := by rw [← hX.HN, ← hY.HN]; exact h1
    subst hnn
    have HO : Hid (oks xs ys 1125899906842624 n) := by rw [← hX.HN]; exact h3
    have Hn : Hid (n ≤ 512) := by rw [← hX.HN]; exact h2
    rw [hp2, deps_len] at hP
    rw [hp, wts_len]
    have HP := Lib.hid hP
    clear he hp hp2 h1 h2 h3 h4 hP
    go_enter Try.func15, Try.ntmps15
    go_wp2_with (first
      | (go_at_call 13; (with_reducible refine (HP.out).mono ?_); rintro e x1 ⟨v, rfl, ho, f1⟩; obtain ⟨A', c', rfl, hl'⟩ := ho.li (by have := Hn.out; omega)))
    rcases Nat.eq_zero_or_pos n with hz | hpos
    · subst hz
      refine wp_loop_rounds 1 ?_
      rw [rounds_succ]
      go_wp2
      go_ret2
      exact ⟨_, rfl, ho, f1⟩
    · obtain ⟨g, hA'⟩ : ∃ g, A' = some ⟨g, 0, none⟩ := by
        rcases ho.2 with ⟨e, hz⟩ | ⟨g, cap, cur, e, _⟩
        · omega
        · simp at e; exact ⟨g, e.1⟩
      subst hA'
      have hA := hX.hA
      have hA2 := hY.hA
      have hBw := hX.hB
      have HX := Lib.hid hX.HN
      have HY := Lib.hid hY.HN
      have hgB : w.heap.size ≤ g := (ho.lt g rfl).1
      clear hX hY hl'
      have ho2 : OwnI x1 w.heap.size (.slice (some ⟨g, 0, none⟩) n c') n (mid xs ys n 0) := by rw [mid_zero]; exact ho
      clear ho
      go_loopw [8] (fun i wr => ∃ k : Nat, k ≤ n ∧ i = .int .i64 k ∧ OwnI wr w.heap.size (.slice (some ⟨g, 0, none⟩) n c') n (mid xs ys n k) ∧ Frm w wr NoB) (fun i _ => n - (intOf i).toNat)
      case atStart => exact ⟨0, Nat.zero_le _, rfl, ho2, f1⟩
      case round =>
        clear ho2 f1
        obtain ⟨k, hk, rfl, ho, hF⟩ := hrel
        by_cases hlt : k < n
        · have hA' := hA.frm0 hF hBw
          have hA2' := hA2.frm0 hF hBw
          obtain ⟨b, o, rfl, hb, hcell⟩ := hA'.pos (by rw [HX.out]; omega)
          obtain ⟨b2, o2, rfl, hb2, hcell2⟩ := hA2'.pos (by rw [HY.out]; omega)
          have q1 := hcell k (by rw [HX.out]; omega)
          have q2 := hcell2 k (by rw [HY.out]; omega)
          have q3 : wr.cell? ⟨g, k, none⟩ = some (.int .i64 (dl xs ys (k + 1))) := by rw [ho.cellAt k (by omega)]; simp [mid_at xs ys n k hlt]
          have b1 := dl_bounds HO.out (by decide) (k + 1) hlt
          obtain ⟨a1, a2, a3, a4⟩ := HO.out k hlt
          have hm := mid_set xs ys n k
          have hnb := Hn.out
          obtain ⟨x, hx⟩ : ∃ x, x = xs.getD k 0 := ⟨_, rfl⟩
          obtain ⟨y, hy⟩ : ∃ y, y = ys.getD k 0 := ⟨_, rfl⟩
          obtain ⟨D, hD⟩ : ∃ D, D = dl xs ys (k + 1) := ⟨_, rfl⟩
          rw [← hx] at q1 hm a1 a2
          rw [← hy] at q2 hm a3 a4
          rw [← hD] at q3 hm b1
          have HM := Lib.hid hm
          have t1 : IntKind.i64.wrap (D - y) = D - y := IntWalk.i64_in _ (by omega)
          have t2 : IntKind.i64.wrap (D - y - x) = D - y - x := IntWalk.i64_in _ (by omega)
          have hk0 : (0 : Int) ≤ (k : Int) := Int.natCast_nonneg _
          have hk1 : (k : Int) < (n : Int) := by omega
          have zf := ho.frozenAt k
          clear hx hy hD hcell hcell2 hA hA2 hA' hA2' hm b1 a1 a2 a3 a4
          go_wp2
          go_still_tail 17, (by kernel_rfl)
          change wpList _ _ _ _ _ wr.drew
          obtain ⟨w2, hw2⟩ : ∃ w2, w2 = wr.drew := ⟨_, rfl⟩
          rw [← hw2]
          have ho2 : OwnI w2 w.heap.size (.slice (some ⟨g, 0, none⟩) n c') n (mid xs ys n k) := by rw [hw2]; exact ho
          have hF2 : Frm w w2 NoB := by rw [hw2]; exact hF.drew
          have q4 : w2.cell? ⟨g, k, none⟩ = some (.int .i64 D) := by rw [hw2]; exact q3
          have zf2 := ho2.frozenAt k
          clear hw2 ho hF q1 q2 q3 zf
          have ho3 := (ho2.stored k (.int .i64 (D - y - x))).1
          have ho4 : OwnI (w2.setCell ⟨g, k, none⟩ (.int .i64 (D - y - x))) w.heap.size (.slice (some ⟨g, 0, none⟩) n c') n (mid xs ys n (k + 1)) := by
            rw [← HM.out]; simpa [OwnI, List.map_set] using ho3
          have hF3 := hF2.put (b := g) (fun h => by omega) k (.int .i64 (D - y - x))
          clear ho2 ho3
          go_wp2
          go_roundw
          case rel => exact ⟨k + 1, by omega, by go_num, ho4, hF3⟩
          case measure => simp [intOf]; omega
        · have hkn : k = n := by omega
          have HK := Lib.hid hkn
          clear hkn hA hA2
          go_wp2
          go_ret2
          exact ⟨_, rfl, by rw [← mid_all, ← HK.out]; rw [HK.out] at ho ⊢; exact ho, hF⟩
  · have hp : wV xs ys = [] := by unfold wV; rw [he, if_neg h0]
    have hp2 : pV xs ys = [] := by unfold pV; rw [he, if_neg h0]
    rw [hp2] at hP
    rw [hp]
    have HP := Lib.hid hP
    have hb : (e0 != 0) = true := by rw [bne_iff_ne]; exact h0
    clear he hp h0 hP hp2 hX hY
    go_enter Try.func15, Try.ntmps15
    go_wp2_with (first
      | (go_at_call 13; (with_reducible refine (HP.out).mono ?_); rintro e x1 ⟨v, rfl, ho, f1⟩))
    go_ret2
    exact ⟨_, rfl, World.ownsRow_nil _ _ _ _, f1⟩
end
end Go.Proofs.Ytdfikembgljpkaa
