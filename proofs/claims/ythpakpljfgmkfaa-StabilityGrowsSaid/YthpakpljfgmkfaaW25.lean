/- StabilityGrows, walked. -/
import Derived.Test.YthpakpljfgmkfaaW24
namespace Go.Proofs.Ythpakpljfgmkfaa
open Go.RowKit

theorem LX.take {w : World} {A A1 : Option Addr} {n N B : Nat} {xs : List Int} (h : LX w A n B xs) (hN : N ≤ n) (hA : ∀ b o, 0 < N → A = some ⟨b, o, none⟩ → A1 = some ⟨b, o, none⟩) : LX w A1 N B (xs.take N) :=
  ⟨by have := h.HN; simp; omega, by
    by_cases h0 : N = 0
    · subst h0; exact .inl (List.take_zero)
    · obtain ⟨b, o, rfl, hb, hc⟩ := h.pos (by omega)
      obtain rfl := hA b o (by omega) rfl
      refine .inr ⟨b, o, rfl, hb, fun j hj => ?_⟩
      have hj2 : j < N := by simp at hj; omega
      have e : (xs.take N).getD j 0 = xs.getD j 0 := by simp [List.getD, hj2]
      rw [e]
      exact hc j (by omega), h.hB⟩
/-- What the loop has found at the distance k. -/
def lst (L : List Int) (N k : Nat) : Int := if k ≤ 1 then 0 else rngF L (k - 1) (N - (k - 1))
set_option maxHeartbeats 8000000 in
theorem stabilityGrows_walk (A : Option Addr) (n c B : Nat) (xs : List Int) (w : World) (hX : LX w A n B xs) (hc : n ≤ c) :
    Calls Try.prog 3 #[.slice A n c] w fun e w' => e = .returned (.bool true) ∧ Frm w w' NoB := by
  obtain ⟨N, hN⟩ : ∃ N, N = min n 60 := ⟨_, rfl⟩
  have hN0 : (if (60 : Int) < (n : Int) then (60 : Int) else (n : Int)) = (N : Int) := by split <;> omega
  obtain ⟨A1, sl, hA1⟩ := sl22 A n c N (by omega) hc
  have hX1 := hX.take (by omega) hA1
  have hNc : N ≤ c := by omega
  have HN : Hid (N = min N 1000) := by unfold Hid; omega
  have hxr : ∀ j, j < N → -2147483648 ≤ (xs.take N).getD j 0 ∧ (xs.take N).getD j 0 ≤ 2147483647 := fun j hj => by
    obtain ⟨_, _, _, _, h⟩ := hX1.pos (by omega)
    exact (h j hj).2
  have hck := lnL_chk (a := 0) (b := 0) (by omega : N ≤ 1000) hxr (by decide) (by decide)
  have hlen := lnL_len (xs.take N) 0 0 N
  obtain ⟨L, hL⟩ : ∃ L, lnL (xs.take N) 0 0 N = L := ⟨_, rfl⟩
  rw [hL] at hck hlen
  have HL := Lib.hid hL
  have HCK := Lib.hid hck
  have HLN := Lib.hid hlen
  have hokl := (chk_zero hck).2
  rw [hlen] at hokl
  have HO := Lib.hid hokl
  have hN60 : N ≤ 60 := by omega
  have hz : (-2147483648 : Int) ≤ 0 ∧ (0 : Int) ≤ 2147483647 := by decide
  have hz2 : (-32768 : Int) ≤ 0 ∧ (0 : Int) ≤ 32767 := by decide
  have hF : Frm w w NoB := Frm.refl w _
  clear hN hX hA1 hxr hck hlen hL hokl hc
  go_enter Try.func3, Try.ntmps3
  go_wp2_with (first
    | (go_at_call 12; (with_reducible refine (line_b HL hX1 hNc HN hz hz2).mono ?_); rintro e x1 ⟨A3, c3, rfl, hc3, hL3, f1⟩; replace hF := hF.trans f1 (fun _ _ h => h); clear f1 hX1))
  go_loopw [4, 5, 6, 7] (fun la i _ _ wr => ∃ k : Nat, 1 ≤ k ∧ (k ≤ N ∨ k = 1) ∧ i = .int .i64 k ∧ la = .int .i64 (lst L N k) ∧ LI wr A3 N wr.heap.size L ∧ Frm w wr NoB) (fun _ i _ _ _ => N - (intOf i).toNat)
  case atStart => exact ⟨1, Nat.le_refl _, .inr rfl, rfl, rfl, hL3, hF⟩
  case round =>
    clear hF hL3
    obtain ⟨k, hk1, hk, rfl, rfl, hL3, hF⟩ := hrel
    by_cases hlt : k < N
    · have he : rgE L (k : Int) = 0 := by unfold rgE; rw [HCK.out, if_neg (show ¬ ((0 : Int) ≠ 0) from fun c => c rfl), HLN.out, if_neg (by omega)]
      have hv : rgV L (k : Int) = lst L N (k + 1) := by unfold rgV lst; rw [he, if_pos rfl, Int.toNat_natCast, HLN.out, if_neg (by omega), Nat.add_sub_cancel]
      have hge : lst L N k ≤ lst L N (k + 1) := by
        unfold lst
        rw [if_neg (show ¬ k + 1 ≤ 1 by omega), Nat.add_sub_cancel]
        by_cases h1 : k ≤ 1
        · rw [if_pos h1]; exact rng_pos _ _ _
        · rw [if_neg h1]
          have := rng_grows L (n := N) (q := k - 1) (by omega)
          rw [show k - 1 + 1 = k by omega] at this
          exact this
      obtain ⟨a0, ha0⟩ : ∃ a, a = lst L N k := ⟨_, rfl⟩
      obtain ⟨a1, ha1⟩ : ∃ a, a = lst L N (k + 1) := ⟨_, rfl⟩
      rw [← ha1] at hv hge
      rw [← ha0] at hge ⊢
      have HE := Lib.hid he
      have HV := Lib.hid hv
      have HA1 := Lib.hid ha1
      have g1 : decide (a1 < a0) = false := decide_eq_false (by omega)
      have hk2 : (k : Int) < (N : Int) := by omega
      clear he hv ha0 ha1
      go_wp2_with (first
        | (go_at_call 13; (with_reducible refine (range_s HE HV hL3 hc3).mono ?_); rintro e x2 ⟨rfl, f1⟩; replace hL3 := (hL3.frm f1).up; replace hF := hF.trans f1 (fun _ _ h => h); clear f1))
      go_roundw
      case rel => exact ⟨k + 1, by omega, .inl (by omega), by go_num, by rw [HA1.out], hL3, hF⟩
      case measure => simp [intOf]; omega
    · obtain ⟨M, hM⟩ : ∃ M, M = max N 1 := ⟨_, rfl⟩
      have hM0 : (if (N : Int) < 1 then (1 : Int) else (N : Int)) = (M : Int) := by split <;> omega
      have he : rgE L (M : Int) = 3 := by unfold rgE; rw [HCK.out, if_neg (show ¬ ((0 : Int) ≠ 0) from fun c => c rfl), HLN.out, if_pos (by omega)]
      have hv : rgV L (M : Int) = 0 := by unfold rgV; rw [he, if_neg (by decide)]
      have HE := Lib.hid he
      have HV := Lib.hid hv
      have HM := Lib.hid hM
      clear he hv hM
      by_cases h2 : N < 2
      · have g2 : decide ((N : Int) < 2) = true := decide_eq_true (by omega)
        have g2b : decide (N < 2) = true := decide_eq_true h2
        have hk2 : ¬ (k : Int) < (N : Int) := by omega
        clear hk
        go_wp2_with (first
          | (go_at_call 13; (with_reducible refine (range_s HE HV hL3 hc3).mono ?_); rintro e x2 ⟨rfl, f1⟩; replace hL3 := (hL3.frm f1).up; replace hF := hF.trans f1 (fun _ _ h => h); clear f1)
          | (go_at_call 16; (with_reducible refine (awake_t _).mono ?_); rintro e x9 ⟨rfl, f1⟩; replace hF := hF.trans f1 (fun _ _ h => h); clear f1))
        go_ret
        exact ⟨rfl, hF⟩
      · obtain rfl : M = N := by have := HM.out; omega
        have hkN : k = M := by omega
        have hlast : lst L M k = mxI L 0 M - mnI L 0 M := by
          unfold lst
          rw [hkN, if_neg (by omega)]
          exact rng_last L (by omega)
        have hmxb := mx_bounds (xs := L) (by rw [HLN.out]; exact HO.out) 0 M (by rw [HLN.out]; omega) (by rw [HLN.out]; omega)
        have hmnb := mn_bounds (xs := L) (by rw [HLN.out]; exact HO.out) 0 M (by rw [HLN.out]; omega) (by rw [HLN.out]; omega)
        have hmx := fun wr (h : LI wr A3 M wr.heap.size L) => max_t A3 M c3 wr.heap.size L wr h (by omega) (by omega)
        have hmn := fun wr (h : LI wr A3 M wr.heap.size L) => min_t A3 M c3 wr.heap.size L wr h (by omega) (by omega)
        rw [hlast]
        obtain ⟨a, ha⟩ : ∃ a, a = mxI L 0 M := ⟨_, rfl⟩
        obtain ⟨b, hb⟩ : ∃ a, a = mnI L 0 M := ⟨_, rfl⟩
        rw [← ha] at hmxb hmx ⊢
        rw [← hb] at hmnb hmn ⊢
        have t1 : IntKind.i64.wrap (a - b) = a - b := IntWalk.i64_in _ (by omega)
        have HMX := Lib.hid hmx
        have HMN := Lib.hid hmn
        have g2 : decide ((M : Int) < 2) = false := decide_eq_false (by omega)
        have g2b : decide (M < 2) = false := decide_eq_false h2
        have hk2 : ¬ (k : Int) < (M : Int) := by omega
        clear ha hb hmx hmn hlast hkN hk
        go_wp2_with (first
          | (go_at_call 13; (with_reducible refine (range_s HE HV hL3 hc3).mono ?_); rintro e x2 ⟨rfl, f1⟩; replace hL3 := (hL3.frm f1).up; replace hF := hF.trans f1 (fun _ _ h => h); clear f1)
          | (go_at_call 14; (with_reducible refine (HMX.out _ hL3).mono ?_); rintro e x2 ⟨rfl, f1⟩; replace hL3 := (hL3.frm f1).up; replace hF := hF.trans f1 (fun _ _ h => h); clear f1)
          | (go_at_call 15; (with_reducible refine (HMN.out _ hL3).mono ?_); rintro e x2 ⟨rfl, f1⟩; replace hF := hF.trans f1 (fun _ _ h => h); clear f1)
          | (go_at_call 16; (with_reducible refine (awake_t _).mono ?_); rintro e x9 ⟨rfl, f1⟩; replace hF := hF.trans f1 (fun _ _ h => h); clear f1))
        go_ret
        exact ⟨rfl, hF⟩
end Go.Proofs.Ythpakpljfgmkfaa
