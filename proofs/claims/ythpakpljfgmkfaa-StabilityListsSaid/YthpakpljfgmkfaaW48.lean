/- Detrend of the reference. -/
import Derived.Test.YthpakpljfgmkfaaW47
import Derived.StillTailTactics
namespace Go.Proofs.Ythpakpljfgmkfaa
open Go.RowKit

section
variable (A : Option Addr) (n c B : Nat) (xs : List Int) (w : World)
set_option maxHeartbeats 4000000 in
theorem rdetrend_chk (hX : LI w A n B xs) (e0 : Int) (HE : Hid (chk xs = e0)) (h0 : e0 ≠ 0) :
    Calls Try.prog 31 #[.slice A n c] w fun e w' => e = .returned (.tuple #[.slice none 0 0, .int .i64 e0]) ∧ Frm w w' NoB := by
  have hb : (e0 != 0) = true := by rw [bne_iff_ne]; exact h0
  clear h0
  go_enter Try.func31, Try.ntmps31
  go_wp2_with (first | (go_at_call 24; (with_reducible refine (rcheck_b HE hX).mono ?_); rintro e x1 ⟨rfl, f1⟩))
  go_ret2
  exact ⟨rfl, f1⟩
set_option maxHeartbeats 4000000 in
theorem rdetrend_short (hX : LI w A n B xs) (HE : Hid (chk xs = 0)) (hn : n < 2) :
    Calls Try.prog 31 #[.slice A n c] w fun e w' => e = .returned (.tuple #[.slice none 0 0, .int .i64 14]) ∧ Frm w w' NoB := by
  have g1 : decide ((n : Int) < 2) = true := decide_eq_true (by omega)
  have g2 : (n : Int) < 2 := by omega
  go_enter Try.func31, Try.ntmps31
  go_wp2_with (first | (go_at_call 24; (with_reducible refine (rcheck_b HE hX).mono ?_); rintro e x1 ⟨rfl, f1⟩))
  go_ret2
  exact ⟨rfl, f1⟩
set_option maxHeartbeats 8000000 in
theorem rdetrend_ok (hX : LI w A n B xs) (HE : Hid (chk xs = 0)) (hn : 2 ≤ n) :
    Calls Try.prog 31 #[.slice A n c] w fun e w' => ∃ g, e = .returned (.tuple #[.slice (some ⟨g, 0, none⟩) n n, .int .i64 0]) ∧ w.heap.size ≤ g ∧ Blk w' g 3 (cel (dtV xs)) ∧ Frm w w' NoB := by
  have hck := chk_zero HE.out
  have hn1 := hck.1
  rw [hX.HN] at hn1
  have HO : Hid (okl xs xs.length) := hck.2
  have HX := Lib.hid hX.HN
  clear hck
  have hmk := make_ints n (by omega)
  obtain ⟨m, hm⟩ : ∃ m, m = n - 1 := ⟨_, rfl⟩
  have g1 : decide ((n : Int) < 2) = false := decide_eq_false (by omega)
  have g1' : decide (n < 2) = false := decide_eq_false (by omega)
  have t0 : IntKind.i64.wrap ((n : Int) - 1) = (m : Int) := by rw [IntWalk.i64_in _ (by omega)]; omega
  have hF := Frm.refl w NoB
  have HM := Lib.hid hm
  clear hm
  go_enter Try.func31, Try.ntmps31
  go_wp2_with (first | (go_at_call 24; (with_reducible refine (rcheck_b HE hX).mono ?_); rintro e x1 ⟨rfl, f1⟩))
  have hF1 := (hF.trans f1 (fun _ _ h => h)).alloc (.cells (cel (List.replicate n 0)) 3)
  have hB1 : Blk (x1.alloc (.cells (cel (List.replicate n 0)) 3)) x1.heap.size 3 (cel (dtL xs 0)) := by rw [dtL_zero, HX.out]; exact Blk.new _ _ _
  have hg : w.heap.size ≤ x1.heap.size := f1.size
  go_loopw [7, 8, 9] (fun i _ _ wr => ∃ k : Nat, k ≤ n ∧ i = .int .i64 k ∧ Blk wr x1.heap.size 3 (cel (dtL xs k)) ∧ Frm w wr NoB) (fun i _ _ _ => n - (intOf i).toNat)
  case atStart => exact ⟨0, Nat.zero_le _, rfl, hB1, hF1⟩
  case round =>
    clear hF hF1 hB1 f1
    obtain ⟨k, hk, rfl, hB, hF⟩ := hrel
    by_cases hlt : k < n
    · have hm := HM.out
      obtain ⟨b, o, rfl, hb, hcell⟩ := (hX.frm hF).hA.pos (by rw [HX.out]; omega)
      have hbg : b ≠ x1.heap.size := by have := hX.hB; omega
      have q0 := hcell 0 (by rw [HX.out]; omega)
      have qm := hcell m (by rw [HX.out]; omega)
      have qk := hcell k (by rw [HX.out]; omega)
      rw [Nat.add_zero] at q0
      have o0 := HO.out 0 (by rw [HX.out]; omega)
      have om := HO.out m (by rw [HX.out]; omega)
      have ok := HO.out k (by rw [HX.out]; omega)
      have hd : dtr xs k = xs.getD k 0 - xs.getD 0 0 - (xs.getD (xs.length - 1) 0 - xs.getD 0 0) * (k : Int) / ((xs.length - 1 : Nat) : Int) := rfl
      rw [HX.out, ← hm] at hd
      obtain ⟨x, hx⟩ : ∃ x, x = xs.getD k 0 := ⟨_, rfl⟩
      obtain ⟨x0, hx0⟩ : ∃ x, x = xs.getD 0 0 := ⟨_, rfl⟩
      obtain ⟨xm, hxm⟩ : ∃ x, x = xs.getD m 0 := ⟨_, rfl⟩
      rw [← hx] at qk ok hd
      rw [← hx0] at q0 o0 hd
      rw [← hxm] at qm om hd
      have hPb : -2251799813685248 ≤ (xm - x0) * (k : Int) ∧ (xm - x0) * (k : Int) ≤ 2251799813685248 := by
        have h1 : ((xm - x0) * (k : Int)).natAbs = (xm - x0).natAbs * k := by rw [Int.natAbs_mul, Int.natAbs_natCast]
        have h2 : (xm - x0).natAbs * k ≤ 2199023255552 * 1024 := Nat.mul_le_mul (by omega) (by omega)
        omega
      have hFb := fl_bound (show (0 : Int) < (m : Int) by omega) hPb.1 hPb.2
      obtain ⟨P, hP⟩ : ∃ P, P = (xm - x0) * (k : Int) := ⟨_, rfl⟩
      rw [← hP] at hPb hFb hd
      obtain ⟨F, hFl⟩ : ∃ F, F = P / (m : Int) := ⟨_, rfl⟩
      have hfl := fun w => rfloor_t P m w (by omega) (by omega) (by omega)
      rw [← hFl] at hFb hd hfl
      have t1 : IntKind.i64.wrap (x - x0) = x - x0 := IntWalk.i64_in _ (by omega)
      have t2 : IntKind.i64.wrap (xm - x0) = xm - x0 := IntWalk.i64_in _ (by omega)
      have t3 : IntKind.i64.wrap ((xm - x0) * (k : Int)) = P := by rw [← hP]; exact IntWalk.i64_in _ (by omega)
      have t4 : IntKind.i64.wrap (x - x0 - F) = x - x0 - F := IntWalk.i64_in _ (by omega)
      have hk0 : (0 : Int) ≤ (k : Int) := Int.natCast_nonneg _
      have hk1 : (k : Int) < (n : Int) := by omega
      have hm0 : (0 : Int) ≤ (m : Int) := Int.natCast_nonneg _
      have hm1 : (m : Int) < (n : Int) := by omega
      have hn0 : (0 : Int) < (n : Int) := by omega
      have hn0b : 0 < n := by omega
      have hset : (dtL xs k).set k (x - x0 - F) = dtL xs (k + 1) := by rw [← hd]; exact dtL_set xs k
      have zf := hB.frozen k
      have cf : ∃ v, wr.cell? ⟨x1.heap.size, k, none⟩ = some v := ⟨_, hB.cellIs (cel_get _ k (by rw [dtL_len, HX.out]; exact hlt))⟩
      obtain ⟨vf, cf⟩ := cf
      have HFL := Lib.hid hfl
      have hkm : (k : Int) ≤ (m : Int) := by omega
      have HS := Lib.hid hset
      clear hcell o0 om ok hd hx hx0 hxm hPb hFb hP hFl hfl hset hm
      go_wp2
      go_region_held3 (fun w' => w'.cell? ⟨b, o, none⟩ = some (.int .i64 x0) ∧ w'.cell? ⟨b, o + m, none⟩ = some (.int .i64 xm))
        (first | exact ⟨q0, qm⟩)
        (first
          | (go_at_call 44; (with_reducible refine (HFL.out _).mono ?_); rintro e y ⟨rfl, rfl⟩))
      go_wp2
      have hF1 : Frm w wr.drew NoB := hF.drew
      have hB1 : Blk wr.drew x1.heap.size 3 (cel (dtL xs k)) := hB
      have p0 : wr.drew.cell? ⟨b, o, none⟩ = some (.int .i64 x0) := q0
      have pk : wr.drew.cell? ⟨b, o + k, none⟩ = some (.int .i64 x) := qk
      have pz : wr.drew.frozen? ⟨x1.heap.size, k, none⟩ = false := zf
      have pf : wr.drew.cell? ⟨x1.heap.size, k, none⟩ = some vf := cf
      obtain ⟨w1, hw1⟩ : ∃ w1, w1 = wr.drew := ⟨_, rfl⟩
      rw [← hw1] at hF1 hB1 p0 pk pz pf ⊢
      clear hw1 hF hB q0 qk qm zf cf
      have r0 : World.cell? { heap := w1.heap, tape := w1.tape, drawn := w1.drawn + 1, os := w1.os, output := w1.output } ⟨b, o, none⟩ = some (.int .i64 x0) := p0
      have rk : World.cell? { heap := w1.heap, tape := w1.tape, drawn := w1.drawn + 1, os := w1.os, output := w1.output } ⟨b, o + k, none⟩ = some (.int .i64 x) := pk
      go_still_tail 13, (by kernel_rfl)
      clear r0 rk
      change wpList _ _ _ _ _ w1.drew
      have hF2 : Frm w w1.drew NoB := hF1.drew
      have hB2 : Blk w1.drew x1.heap.size 3 (cel (dtL xs k)) := hB1
      have s0 : w1.drew.cell? ⟨b, o, none⟩ = some (.int .i64 x0) := p0
      have sk : w1.drew.cell? ⟨b, o + k, none⟩ = some (.int .i64 x) := pk
      have sz : w1.drew.frozen? ⟨x1.heap.size, k, none⟩ = false := pz
      have sf : w1.drew.cell? ⟨x1.heap.size, k, none⟩ = some vf := pf
      obtain ⟨w2, hw2⟩ : ∃ w2, w2 = w1.drew := ⟨_, rfl⟩
      rw [← hw2] at hF2 hB2 s0 sk sz sf ⊢
      clear hw2 hF1 hB1 p0 pk pz pf
      have hB3 : Blk (w2.setCell ⟨x1.heap.size, k, none⟩ (.int .i64 (x - x0 - F))) x1.heap.size 3 (cel (dtL xs (k + 1))) := by
        have h := hB2.put k (.int .i64 (x - x0 - F))
        rw [cel_set, HS.out] at h
        exact h
      have hF3 := hF2.put (b := x1.heap.size) (fun h => absurd h (by omega)) k (.int .i64 (x - x0 - F))
      go_wp2
      go_roundw
      case rel => exact ⟨k + 1, by omega, by go_num, hB3, hF3⟩
      case measure => simp [intOf]; omega
    · have hkn : k = n := by omega
      have hkm : ¬ (k : Int) ≤ (m : Int) := by have := HM.out; omega
      rw [hkn, ← HX.out, dtL_all] at hB
      clear hkn
      go_wp2
      go_ret2
      exact ⟨_, rfl, hg, hB, hF⟩
end
section
variable {A : Option Addr} {n c B N : Nat} {xs ps : List Int} {e0 : Int} {w : World}
/-- Detrend of the reference, all results. -/
theorem rdetrend_n (HE : Hid (dtE xs = e0)) (HV : Hid (dtR xs = ps)) (HN : Hid (ps.length = N)) (hX : LI w A n B xs) :
    Calls Try.prog 31 #[.slice A n c] w fun e w' => ∃ A' c', e = .returned (.tuple #[.slice A' N c', .int .i64 e0]) ∧ LI w' A' N w'.heap.size ps ∧ Frm w w' NoB := by
  rw [← HN.out, ← HE.out, ← HV.out]
  by_cases h0 : chk xs = 0
  · by_cases h1 : n < 2
    · have he : dtE xs = 14 := by unfold dtE; rw [if_neg (not_not_intro h0), if_pos (by rw [hX.HN]; exact h1)]
      have hv : dtR xs = [] := by unfold dtR; rw [he, if_neg (by decide)]
      rw [he, hv]
      refine (rdetrend_short A n c B xs w hX h0 h1).mono ?_
      rintro e w' ⟨rfl, f⟩
      exact ⟨none, 0, rfl, LI.nil w', f⟩
    · have he : dtE xs = 0 := by unfold dtE; rw [if_neg (not_not_intro h0), if_neg (by rw [hX.HN]; exact h1)]
      have hv : dtR xs = dtV xs := by unfold dtR; rw [he, if_pos rfl]
      have hle := (chk_zero h0).1
      have hl := dtV_len xs
      have hN := hX.HN
      rw [he, hv, hl, hN]
      refine (rdetrend_ok A n c B xs w hX h0 (by omega)).mono ?_
      rintro e w' ⟨g, rfl, _, hb, hf⟩
      exact ⟨_, _, rfl, ⟨by omega, by rw [hl, hN], (RdI.of_blk hb).more hb.lt, Nat.le_refl _⟩, hf⟩
  · have he : dtE xs = chk xs := by unfold dtE; rw [if_pos h0]
    have hv : dtR xs = [] := by unfold dtR; rw [he, if_neg h0]
    rw [he, hv]
    refine (rdetrend_chk A n c B xs w hX (chk xs) rfl h0).mono ?_
    rintro e w' ⟨rfl, f⟩
    exact ⟨none, 0, rfl, LI.nil w', f⟩
end
end Go.Proofs.Ythpakpljfgmkfaa
