/- What Asymmetry and Arrive of the program and of the reference return. -/
import Derived.Test.YtchmaecakjeceaaW6
namespace Go.Proofs.Ytchmaecakjeceaa
open Go.RowKit

/-- The least and the greatest delay. -/
theorem dlk_bounds {cs : List Chg} {dir at_ d : Int} (ha : allc cs) (hd : 0 ≤ d ∧ d ≤ 10000000000) : ∀ k, k ≤ cs.length → 0 ≤ dlk cs dir at_ d k ∧ dlk cs dir at_ d k ≤ 10000000000
  | 0, _ => hd
  | k + 1, hk => by
    have h := ha k (by omega)
    unfold okc at h
    simp only [Bool.and_eq_true, okr_iff] at h
    unfold dlk
    split
    · exact h.2
    · exact dlk_bounds ha hd k (by omega)
theorem delayF_bounds (d0 d1 v0 v1 ls : Int) (cs : List Chg) (dir at_ : Int) : 0 ≤ delayF d0 d1 v0 v1 ls cs dir at_ ∧ delayF d0 d1 v0 v1 ls cs dir at_ ≤ 10000000000 := by
  unfold delayF
  split
  · rename_i h
    obtain ⟨hc, _, _, _⟩ := vld_iff.1 h
    obtain ⟨hh, ha, _, _⟩ := chk_zero hc
    obtain ⟨b1, b2, _⟩ := hd_bounds hh
    exact dlk_bounds ha (by split <;> assumption) _ (Nat.le_refl _)
  · exact ⟨by decide, by decide⟩
theorem mod_bounds (X v : Int) (hv : 0 ≤ v) : 0 ≤ X % (v + 1) ∧ X % (v + 1) ≤ v := by
  have h0 := Int.emod_nonneg X (show v + 1 ≠ 0 by omega)
  have h1 := Int.emod_lt_of_pos X (show 0 < v + 1 by omega)
  exact ⟨h0, by omega⟩
theorem wrap_mod (X v : Int) (hv : 0 ≤ v ∧ v ≤ 10000000000) : IntKind.i64.wrap (X % (v + 1)) = X % (v + 1) := by
  obtain ⟨h0, h1⟩ := mod_bounds X v hv.1
  generalize X % (v + 1) = r at h0 h1 ⊢
  exact IntWalk.i64_in _ ⟨by omega, by omega⟩
theorem nz_eq {sd v dir m : Int} (hv : 0 ≤ v ∧ v ≤ 10000000000) : nz sd v dir m = mixI sd (4 * m + 2 * dir + 1) % (v + 1) := by
  unfold nz; exact wrap_mod _ v hv
theorem nz_bounds {sd v dir m : Int} (hv : 0 ≤ v ∧ v ≤ 10000000000) : 0 ≤ nz sd v dir m ∧ nz sd v dir m ≤ v := by
  rw [nz_eq hv]; exact mod_bounds _ v hv.1
theorem noiseF_bounds (d0 d1 v0 v1 ls sd : Int) (cs : List Chg) (dir m : Int) : 0 ≤ noiseF d0 d1 v0 v1 ls sd cs dir m ∧ noiseF d0 d1 v0 v1 ls sd cs dir m ≤ 10000000000 := by
  unfold noiseF
  by_cases h : vld d0 d1 v0 v1 ls cs dir 0 m = true
  · rw [if_pos h]
    obtain ⟨hc, _, _, _⟩ := vld_iff.1 h
    obtain ⟨hh, _, _, _⟩ := chk_zero hc
    obtain ⟨_, _, b3, b4, _⟩ := hd_bounds hh
    have hv : 0 ≤ (if dir = 0 then v0 else v1) ∧ (if dir = 0 then v0 else v1) ≤ 10000000000 := by split <;> assumption
    generalize (if dir = 0 then v0 else v1) = v at hv ⊢
    obtain ⟨q1, q2⟩ := nz_bounds (sd := sd) (dir := dir) (m := m) hv
    generalize nz sd v dir m = r at q1 q2 ⊢
    exact ⟨q1, Int.le_trans q2 hv.2⟩
  · rw [if_neg h]; exact ⟨by decide, by decide⟩

section
variable {d0 d1 v0 v1 ls sd : Int} {A : Option Addr} {n c B : Nat} {cs : List Chg} {dir at_ m : Int} {w : World} {D : Int}
theorem delay_b (hL : LC w A n B cs) (H : Hid (delayF d0 d1 v0 v1 ls cs dir at_ = D)) :
    Calls Try.prog 14 #[.agg #[.int .i64 d0, .int .i64 d1, .int .i64 v0, .int .i64 v1, .int .i64 ls, .int .u64 sd, .slice A n c], .int .i64 dir, .int .i64 at_] w fun e w' => e = .returned (.int .i64 D) ∧ Frm w w' NoB := by
  have k := delay_t d0 d1 v0 v1 ls sd A n c B cs dir at_ w hL
  rw [H.out] at k
  exact k
theorem rdelay_b (hL : LC w A n B cs) (H : Hid (delayF d0 d1 v0 v1 ls cs dir at_ = D)) :
    Calls Try.prog 15 #[.agg #[.int .i64 d0, .int .i64 d1, .int .i64 v0, .int .i64 v1, .int .i64 ls, .int .u64 sd, .slice A n c], .int .i64 dir, .int .i64 at_] w fun e w' => e = .returned (.int .i64 D) ∧ Frm w w' NoB := by
  have k := rdelay_t d0 d1 v0 v1 ls sd A n c B cs dir at_ w hL
  rw [H.out] at k
  exact k
theorem noise_b (hL : LC w A n B cs) (H : Hid (noiseF d0 d1 v0 v1 ls sd cs dir m = D)) :
    Calls Try.prog 18 #[.agg #[.int .i64 d0, .int .i64 d1, .int .i64 v0, .int .i64 v1, .int .i64 ls, .int .u64 sd, .slice A n c], .int .i64 dir, .int .i64 m] w fun e w' => e = .returned (.int .i64 D) ∧ Frm w w' NoB := by
  have k := noise_t d0 d1 v0 v1 ls sd A n c B cs dir m w hL
  rw [H.out] at k
  exact k
theorem rnoise_b (hL : LC w A n B cs) (H : Hid (noiseF d0 d1 v0 v1 ls sd cs dir m = D)) :
    Calls Try.prog 19 #[.agg #[.int .i64 d0, .int .i64 d1, .int .i64 v0, .int .i64 v1, .int .i64 ls, .int .u64 sd, .slice A n c], .int .i64 dir, .int .i64 m] w fun e w' => e = .returned (.int .i64 D) ∧ Frm w w' NoB := by
  have k := rnoise_t d0 d1 v0 v1 ls sd A n c B cs dir m w hL
  rw [H.out] at k
  exact k
end

set_option maxHeartbeats 2000000 in
theorem asym_t (d0 d1 v0 v1 ls sd : Int) (A : Option Addr) (n c B : Nat) (cs : List Chg) (at_ : Int) (w : World) (hL : LC w A n B cs) :
    Calls Try.prog 16 #[.agg #[.int .i64 d0, .int .i64 d1, .int .i64 v0, .int .i64 v1, .int .i64 ls, .int .u64 sd, .slice A n c], .int .i64 at_] w fun e w' => e = .returned (.int .i64 (delayF d0 d1 v0 v1 ls cs 0 at_ - delayF d0 d1 v0 v1 ls cs 1 at_)) ∧ Frm w w' NoB := by
  have b0 := delayF_bounds d0 d1 v0 v1 ls cs 0 at_
  have b1 := delayF_bounds d0 d1 v0 v1 ls cs 1 at_
  obtain ⟨x, hx⟩ : ∃ x, delayF d0 d1 v0 v1 ls cs 0 at_ = x := ⟨_, rfl⟩
  obtain ⟨y, hy⟩ : ∃ y, delayF d0 d1 v0 v1 ls cs 1 at_ = y := ⟨_, rfl⟩
  rw [hx] at b0 ⊢
  rw [hy] at b1 ⊢
  have Hx := Lib.hid hx
  have Hy := Lib.hid hy
  have s1 : IntKind.i64.wrap (x - y) = x - y := IntWalk.i64_in _ (by omega)
  have hF : Frm w (w.alloc (.cells (LkCells d0 d1 v0 v1 ls sd A n c) 26)) NoB := (Frm.refl w _).alloc _
  have hB : Blk (w.alloc (.cells (LkCells d0 d1 v0 v1 ls sd A n c) 26)) w.heap.size 26 (LkCells d0 d1 v0 v1 ls sd A n c) := Blk.new _ _ _
  replace hL := hL.alloc (.cells (LkCells d0 d1 v0 v1 ls sd A n c) 26)
  clear hx hy
  go_enter Try.func16, Try.ntmps16
  go_wp2_with fail
  go_region_held3 (fun w' => w'.cell? ⟨w.heap.size, 0, none⟩ = some (.int .i64 d0) ∧ w'.cell? ⟨w.heap.size, 1, none⟩ = some (.int .i64 d1) ∧ w'.cell? ⟨w.heap.size, 2, none⟩ = some (.int .i64 v0) ∧ w'.cell? ⟨w.heap.size, 3, none⟩ = some (.int .i64 v1) ∧ w'.cell? ⟨w.heap.size, 4, none⟩ = some (.int .i64 ls) ∧ w'.cell? ⟨w.heap.size, 5, none⟩ = some (.int .u64 sd) ∧ w'.cell? ⟨w.heap.size, 6, none⟩ = some (.slice A n c))
    (first | go_keep | exact lk_cells hB)
    (first
      | (go_at_call 14; (with_reducible refine (delay_b (by exact hL.drew) Hx).mono ?_); rintro e x1 ⟨rfl, f1⟩; replace hL := hL.drew.frm f1; replace hF := hF.drew.trans f1 (fun _ _ e => e); replace hB := hB.drew.frm f1 (fun e => e))
      | (go_at_call 14; (with_reducible refine (delay_b (by exact hL.drew) Hy).mono ?_); rintro e x1 ⟨rfl, f1⟩; replace hL := hL.drew.frm f1; replace hF := hF.drew.trans f1 (fun _ _ e => e); replace hB := hB.drew.frm f1 (fun e => e))
      | (go_at_call 14; (with_reducible refine (delay_b (by exact hL) Hx).mono ?_); rintro e x1 ⟨rfl, f1⟩; replace hL := hL.frm f1; replace hF := hF.trans f1 (fun _ _ e => e); replace hB := hB.frm f1 (fun e => e))
      | (go_at_call 14; (with_reducible refine (delay_b (by exact hL) Hy).mono ?_); rintro e x1 ⟨rfl, f1⟩; replace hL := hL.frm f1; replace hF := hF.trans f1 (fun _ _ e => e); replace hB := hB.frm f1 (fun e => e)))
  go_wp2
  go_ret
  exact ⟨rfl, hF⟩
theorem rasym_t (d0 d1 v0 v1 ls sd : Int) (A : Option Addr) (n c B : Nat) (cs : List Chg) (at_ : Int) (w : World) (hL : LC w A n B cs) :
    Calls Try.prog 17 #[.agg #[.int .i64 d0, .int .i64 d1, .int .i64 v0, .int .i64 v1, .int .i64 ls, .int .u64 sd, .slice A n c], .int .i64 at_] w fun e w' => e = .returned (.int .i64 (delayF d0 d1 v0 v1 ls cs 0 at_ - delayF d0 d1 v0 v1 ls cs 1 at_)) ∧ Frm w w' NoB := by
  have b0 := delayF_bounds d0 d1 v0 v1 ls cs 0 at_
  have b1 := delayF_bounds d0 d1 v0 v1 ls cs 1 at_
  obtain ⟨x, hx⟩ : ∃ x, delayF d0 d1 v0 v1 ls cs 0 at_ = x := ⟨_, rfl⟩
  obtain ⟨y, hy⟩ : ∃ y, delayF d0 d1 v0 v1 ls cs 1 at_ = y := ⟨_, rfl⟩
  rw [hx] at b0 ⊢
  rw [hy] at b1 ⊢
  have Hx := Lib.hid hx
  have Hy := Lib.hid hy
  have s1 : IntKind.i64.wrap (x - y) = x - y := IntWalk.i64_in _ (by omega)
  have hF : Frm w (w.alloc (.cells (LkCells d0 d1 v0 v1 ls sd A n c) 26)) NoB := (Frm.refl w _).alloc _
  have hB : Blk (w.alloc (.cells (LkCells d0 d1 v0 v1 ls sd A n c) 26)) w.heap.size 26 (LkCells d0 d1 v0 v1 ls sd A n c) := Blk.new _ _ _
  replace hL := hL.alloc (.cells (LkCells d0 d1 v0 v1 ls sd A n c) 26)
  clear hx hy
  go_enter Try.func17, Try.ntmps17
  go_wp2_with fail
  go_region_held3 (fun w' => w'.cell? ⟨w.heap.size, 0, none⟩ = some (.int .i64 d0) ∧ w'.cell? ⟨w.heap.size, 1, none⟩ = some (.int .i64 d1) ∧ w'.cell? ⟨w.heap.size, 2, none⟩ = some (.int .i64 v0) ∧ w'.cell? ⟨w.heap.size, 3, none⟩ = some (.int .i64 v1) ∧ w'.cell? ⟨w.heap.size, 4, none⟩ = some (.int .i64 ls) ∧ w'.cell? ⟨w.heap.size, 5, none⟩ = some (.int .u64 sd) ∧ w'.cell? ⟨w.heap.size, 6, none⟩ = some (.slice A n c))
    (first | go_keep | exact lk_cells hB)
    (first
      | (go_at_call 15; (with_reducible refine (rdelay_b (by exact hL.drew) Hx).mono ?_); rintro e x1 ⟨rfl, f1⟩; replace hL := hL.drew.frm f1; replace hF := hF.drew.trans f1 (fun _ _ e => e); replace hB := hB.drew.frm f1 (fun e => e))
      | (go_at_call 15; (with_reducible refine (rdelay_b (by exact hL.drew) Hy).mono ?_); rintro e x1 ⟨rfl, f1⟩; replace hL := hL.drew.frm f1; replace hF := hF.drew.trans f1 (fun _ _ e => e); replace hB := hB.drew.frm f1 (fun e => e))
      | (go_at_call 15; (with_reducible refine (rdelay_b (by exact hL) Hx).mono ?_); rintro e x1 ⟨rfl, f1⟩; replace hL := hL.frm f1; replace hF := hF.trans f1 (fun _ _ e => e); replace hB := hB.frm f1 (fun e => e))
      | (go_at_call 15; (with_reducible refine (rdelay_b (by exact hL) Hy).mono ?_); rintro e x1 ⟨rfl, f1⟩; replace hL := hL.frm f1; replace hF := hF.trans f1 (fun _ _ e => e); replace hB := hB.frm f1 (fun e => e)))
  go_wp2
  go_ret
  exact ⟨rfl, hF⟩
end Go.Proofs.Ytchmaecakjeceaa
