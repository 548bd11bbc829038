/- The chapter's examples hold: awake returns true. -/
import Derived.Test.YtchmaecakjeceaaW9
namespace Go.Proofs.Ytchmaecakjeceaa
open Go.RowKit

section
variable {d0 d1 v0 v1 ls sd : Int} {A : Option Addr} {n c B : Nat} {cs : List Chg} {dir at_ m : Int} {w : World} {x y : Int} {p : Bool}
theorem arrive_b (hL : LC w A n B cs) (H : Hid (arrT d0 d1 v0 v1 ls sd cs dir at_ m = x)) (H2 : Hid (arrB d0 d1 v0 v1 ls sd cs dir at_ m = p)) :
    Calls Try.prog 22 #[.agg #[.int .i64 d0, .int .i64 d1, .int .i64 v0, .int .i64 v1, .int .i64 ls, .int .u64 sd, .slice A n c], .int .i64 dir, .int .i64 at_, .int .i64 m] w fun e w' => e = .returned (.tuple #[.int .i64 x, .bool p]) ∧ Frm w w' NoB := by
  have k := arrive_t d0 d1 v0 v1 ls sd A n c B cs dir at_ m w hL
  rw [H.out, H2.out] at k
  exact k
theorem asym_b (hL : LC w A n B cs) (H : Hid (delayF d0 d1 v0 v1 ls cs 0 at_ - delayF d0 d1 v0 v1 ls cs 1 at_ = x)) :
    Calls Try.prog 16 #[.agg #[.int .i64 d0, .int .i64 d1, .int .i64 v0, .int .i64 v1, .int .i64 ls, .int .u64 sd, .slice A n c], .int .i64 at_] w fun e w' => e = .returned (.int .i64 x) ∧ Frm w w' NoB := by
  have k := asym_t d0 d1 v0 v1 ls sd A n c B cs at_ w hL
  rw [H.out] at k
  exact k
theorem bounds_b (hL : LC w A n B cs) (H : Hid (bLo d0 d1 v0 v1 ls cs dir = x)) (H2 : Hid (bHi d0 d1 v0 v1 ls cs dir = y)) :
    Calls Try.prog 20 #[.agg #[.int .i64 d0, .int .i64 d1, .int .i64 v0, .int .i64 v1, .int .i64 ls, .int .u64 sd, .slice A n c], .int .i64 dir] w fun e w' => e = .returned (.agg #[.int .i64 x, .int .i64 y]) ∧ Frm w w' NoB := by
  have k := bounds_t d0 d1 v0 v1 ls sd A n c B cs dir w hL
  rw [H.out, H2.out] at k
  exact k
end

def ex : List Chg := [⟨50, 0, 7000⟩]
theorem ex_chk (ls : Int) (h : okr 1000 ls = true) : chk 1000 3000 0 0 ls ex = 0 := by
  refine chk_ok (by unfold hd; rw [h]; decide) ?_ (by decide) ?_
  · intro j hj
    obtain rfl : j = 0 := by simp [ex] at hj; omega
    decide
  · intro j hj
    simp [ex] at hj
theorem ex_vld (ls dir at_ m : Int) (h : okr 1000 ls = true) (h1 : okr 1 dir = true) (h2 : okr 1125899906842624 at_ = true) (h3 : okr 1099511627776 m = true) : vld 1000 3000 0 0 ls ex dir at_ m = true := by
  unfold vld; rw [ex_chk ls h, h1, h2, h3]; rfl
theorem ex_delay (ls dir at_ : Int) (h : okr 1000 ls = true) (h1 : okr 1 dir = true) (h2 : okr 1125899906842624 at_ = true) :
    delayF 1000 3000 0 0 ls ex dir at_ = if 50 ≤ at_ ∧ 0 = dir then 7000 else if dir = 0 then 1000 else 3000 := by
  unfold delayF; rw [ex_vld ls dir at_ 0 h h1 h2 (by decide), if_pos rfl]; rfl
theorem ex_noise (ls dir m : Int) (h : okr 1000 ls = true) (h1 : okr 1 dir = true) (h3 : okr 1099511627776 m = true) : noiseF 1000 3000 0 0 ls 0 ex dir m = 0 := by
  unfold noiseF; rw [ex_vld ls dir 0 m h h1 (by decide) h3, if_pos rfl]
  have : (if dir = 0 then (0 : Int) else 0) = 0 := by split <;> rfl
  rw [this, nz_eq (by omega)]
  exact Int.emod_one _
theorem ex_lost0 (dir m : Int) : lost 0 0 dir m = false := by
  unfold lost; rw [decide_eq_false_iff_not]
  have := Int.emod_nonneg (mixI 0 (4 * m + 2 * dir)) (show (1000 : Int) ≠ 0 by decide)
  omega
theorem ex_lost1 (dir m : Int) : lost 0 1000 dir m = true := by
  unfold lost; rw [decide_eq_true_eq]
  exact Int.emod_lt_of_pos _ (by decide)

set_option maxRecDepth 100000 in
set_option maxHeartbeats 4000000 in
theorem awake_t (w : World) : Calls Try.prog 11 #[] w fun e w' => e = .returned (.bool true) ∧ Frm w w' NoB := by
  have k0 : okr 1000 0 = true := by decide
  have k1 : okr 1000 1000 = true := by decide
  have q0 : okr 1 0 = true := by decide
  have q1 : okr 1 1 = true := by decide
  have a49 : okr 1125899906842624 49 = true := by decide
  have a50 : okr 1125899906842624 50 = true := by decide
  have m3 : okr 1099511627776 3 = true := by decide
  have e1 : delayF 1000 3000 0 0 0 ex 0 49 = 1000 := by rw [ex_delay 0 0 49 k0 q0 a49]; decide
  have e2 : delayF 1000 3000 0 0 0 ex 0 50 = 7000 := by rw [ex_delay 0 0 50 k0 q0 a50]; decide
  have e3 : delayF 1000 3000 0 0 0 ex 1 49 = 3000 := by rw [ex_delay 0 1 49 k0 q1 a49]; decide
  have e4 : delayF 1000 3000 0 0 0 ex 1 50 = 3000 := by rw [ex_delay 0 1 50 k0 q1 a50]; decide
  have H0 : Hid (chk 1000 3000 0 0 0 ex = 0) := ex_chk 0 k0
  have H1 := Lib.hid e1
  have H2 := Lib.hid e2
  have H3 : Hid (delayF 1000 3000 0 0 0 ex 0 49 - delayF 1000 3000 0 0 0 ex 1 49 = -2000) := by unfold Hid; rw [e1, e3]; rfl
  have H4 : Hid (delayF 1000 3000 0 0 0 ex 0 50 - delayF 1000 3000 0 0 0 ex 1 50 = 4000) := by unfold Hid; rw [e2, e4]; rfl
  have b0 : arrB 1000 3000 0 0 0 0 ex 0 50 3 = true := by unfold arrB; rw [ex_vld 0 0 50 3 k0 q0 a50 m3, ex_lost0]; rfl
  have B0 := Lib.hid b0
  have T0 : Hid (arrT 1000 3000 0 0 0 0 ex 0 50 3 = 7050) := by unfold Hid arrT; rw [if_pos b0, e2, ex_noise 0 0 3 k0 q0 m3]; rfl
  have b1 : arrB 1000 3000 0 0 1000 0 ex 0 50 3 = false := by unfold arrB; rw [ex_lost1]; simp
  have B1 := Lib.hid b1
  have T1 : Hid (arrT 1000 3000 0 0 1000 0 ex 0 50 3 = 0) := by unfold Hid arrT; rw [b1]; rfl
  have L0 : Hid (bLo 1000 3000 0 0 0 ex 0 = 1000) := by unfold Hid bLo; rw [ex_vld 0 0 0 0 k0 q0 (by decide) (by decide), if_pos rfl]; decide
  have U0 : Hid (bHi 1000 3000 0 0 0 ex 0 = 7000) := by unfold Hid bHi; rw [ex_vld 0 0 0 0 k0 q0 (by decide) (by decide), if_pos rfl]; decide
  have L1 : Hid (bLo 1000 3000 0 0 0 ex 1 = 3000) := by unfold Hid bLo; rw [ex_vld 0 1 0 0 k0 q1 (by decide) (by decide), if_pos rfl]; decide
  have U1 : Hid (bHi 1000 3000 0 0 0 ex 1 = 3000) := by unfold Hid bHi; rw [ex_vld 0 1 0 0 k0 q1 (by decide) (by decide), if_pos rfl]; decide
  clear k0 k1 q0 q1 a49 a50 m3 e1 e2 e3 e4 b0 b1
  have hB : Blk ((w.alloc (.cells #[.int .i64 50, .int .i64 0, .int .i64 7000] 48)).alloc (.cells (LkCells 1000 3000 0 0 0 0 (some ⟨w.heap.size, 0, none⟩) 1 1) 26)) (w.heap.size + 1) 26 (LkCells 1000 3000 0 0 0 0 (some ⟨w.heap.size, 0, none⟩) 1 1) := Blk.newAt _ _ _ (by simp)
  have hC : Blk ((w.alloc (.cells #[.int .i64 50, .int .i64 0, .int .i64 7000] 48)).alloc (.cells (LkCells 1000 3000 0 0 0 0 (some ⟨w.heap.size, 0, none⟩) 1 1) 26)) w.heap.size 48 #[.int .i64 50, .int .i64 0, .int .i64 7000] := (Blk.new _ _ _).alloc _
  have hF : Frm w ((w.alloc (.cells #[.int .i64 50, .int .i64 0, .int .i64 7000] 48)).alloc (.cells (LkCells 1000 3000 0 0 0 0 (some ⟨w.heap.size, 0, none⟩) 1 1) 26)) NoB := ((Frm.refl w _).alloc _).alloc _
  have hL : LC ((w.alloc (.cells #[.int .i64 50, .int .i64 0, .int .i64 7000] 48)).alloc (.cells (LkCells 1000 3000 0 0 0 0 (some ⟨w.heap.size, 0, none⟩) 1 1) 26)) (some ⟨w.heap.size, 0, none⟩) 1 (w.heap.size + 1) ex := by
    refine ⟨by decide, rfl, .inr ⟨w.heap.size, 0, rfl, by omega, fun j hj => ?_⟩, by simp⟩
    obtain rfl : j = 0 := by simp [ex] at hj; omega
    exact ⟨hC.cellIs rfl, hC.cellIs rfl, hC.cellIs rfl⟩
  clear hC
  go_enter Try.func11, Try.ntmps11
  go_wp2_with (first
    | (go_at_call 22; (with_reducible refine (arrive_b hL T0 B0).mono ?_); rintro e x1 ⟨rfl, f1⟩; replace hL := hL.frm f1; replace hF := hF.trans f1 (fun _ _ e => e); replace hB := hB.frm f1 (fun e => e); obtain ⟨_, _, _, _, _, _, _⟩ := lk_cells hB)
    | (go_at_call 12; (with_reducible refine (check_b hL H0).mono ?_); rintro e x1 ⟨rfl, f1⟩; replace hL := hL.frm f1; replace hF := hF.trans f1 (fun _ _ e => e); replace hB := hB.frm f1 (fun e => e); obtain ⟨_, _, _, _, _, _, _⟩ := lk_cells hB)
    | (go_at_call 14; (with_reducible refine (delay_b hL H1).mono ?_); rintro e x1 ⟨rfl, f1⟩; replace hL := hL.frm f1; replace hF := hF.trans f1 (fun _ _ e => e); replace hB := hB.frm f1 (fun e => e); obtain ⟨_, _, _, _, _, _, _⟩ := lk_cells hB)
    | (go_at_call 14; (with_reducible refine (delay_b hL H2).mono ?_); rintro e x1 ⟨rfl, f1⟩; replace hL := hL.frm f1; replace hF := hF.trans f1 (fun _ _ e => e); replace hB := hB.frm f1 (fun e => e); obtain ⟨_, _, _, _, _, _, _⟩ := lk_cells hB)
    | (go_at_call 16; (with_reducible refine (asym_b hL H3).mono ?_); rintro e x1 ⟨rfl, f1⟩; replace hL := hL.frm f1; replace hF := hF.trans f1 (fun _ _ e => e); replace hB := hB.frm f1 (fun e => e); obtain ⟨_, _, _, _, _, _, _⟩ := lk_cells hB)
    | (go_at_call 16; (with_reducible refine (asym_b hL H4).mono ?_); rintro e x1 ⟨rfl, f1⟩; replace hL := hL.frm f1; replace hF := hF.trans f1 (fun _ _ e => e); replace hB := hB.frm f1 (fun e => e); obtain ⟨_, _, _, _, _, _, _⟩ := lk_cells hB)
    | (go_at_call 20; (with_reducible refine (bounds_b hL L0 U0).mono ?_); rintro e x1 ⟨rfl, f1⟩; replace hL := hL.frm f1; replace hF := hF.trans f1 (fun _ _ e => e); replace hB := hB.frm f1 (fun e => e); obtain ⟨_, _, _, _, _, _, _⟩ := lk_cells hB)
    | (go_at_call 20; (with_reducible refine (bounds_b hL L1 U1).mono ?_); rintro e x1 ⟨rfl, f1⟩; replace hL := hL.frm f1; replace hF := hF.trans f1 (fun _ _ e => e); replace hB := hB.frm f1 (fun e => e); obtain ⟨_, _, _, _, _, _, _⟩ := lk_cells hB; have hz := hB.frozen 4; have hB2 : Blk (x1.setCell ⟨w.heap.size + 1, 4, none⟩ (.int .i64 1000)) (w.heap.size + 1) 26 (LkCells 1000 3000 0 0 1000 0 (some ⟨w.heap.size, 0, none⟩) 1 1) := hB.put 4 (.int .i64 1000); obtain ⟨_, _, _, _, _, _, _⟩ := lk_cells hB2))
  have hF2 := hF.put (b := w.heap.size + 1) (fun h => by omega) 4 (.int .i64 1000)
  have hL2 : LC (x1.setCell ⟨w.heap.size + 1, 4, none⟩ (.int .i64 1000)) (some ⟨w.heap.size, 0, none⟩) 1 (w.heap.size + 1) ex := by
    obtain ⟨b, o, e, hb, hc⟩ := hL.hA.pos (by decide)
    injection e with e
    injection e with e1 e2
    subst e1
    subst e2
    refine ⟨by decide, rfl, .inr ⟨w.heap.size, 0, rfl, by omega, fun j hj => ?_⟩, by simpa [World.setCell] using hL.hB⟩
    have h := hc j hj
    have g : ∀ o', (x1.setCell ⟨w.heap.size + 1, 4, none⟩ (.int .i64 1000)).cell? ⟨w.heap.size, o', none⟩ = x1.cell? ⟨w.heap.size, o', none⟩ := fun o' => World.cell?_setCell_other _ _ _ _ (by simp)
    rw [g, g, g]
    exact h
  refine (arrive_b hL2 T1 B1).mono ?_
  rintro e x2 ⟨rfl, f2⟩
  go_wp2
  go_ret
  exact ⟨rfl, hF2.trans f2 (fun _ _ e => e)⟩
end Go.Proofs.Ytchmaecakjeceaa
