/- Second, squares and rat of the reference. -/
import Derived.Test.YthpakpljfgmkfaaW27
import Derived.StillTailTactics
namespace Go.Proofs.Ythpakpljfgmkfaa
open Go.RowKit

set_option maxHeartbeats 4000000 in
theorem rsecond_t (A : Option Addr) (n c i q B : Nat) (xs : List Int) (w : World) (hX : LI w A n B xs) (hO : okl xs xs.length) (hn : n ≤ 1024) (hi : i + 2 * q < n) :
    Calls Try.prog 40 #[.slice A n c, .int .i64 (i : Int), .int .i64 (q : Int)] w fun e w' => e = .returned (.int .i64 (s2 xs i q)) ∧ Frm w w' NoB := by
  have HX := Lib.hid hX.HN
  obtain ⟨b, o, rfl, _, hcell⟩ := hX.hA.pos (by rw [HX.out]; omega)
  have h1 := hO (i + 2 * q) (by rw [HX.out]; omega)
  have h2 := hO (i + q) (by rw [HX.out]; omega)
  have h3 := hO i (by rw [HX.out]; omega)
  have q1 := hcell (i + 2 * q) (by rw [HX.out]; omega)
  have q2 := hcell (i + q) (by rw [HX.out]; omega)
  have q3 := hcell i (by rw [HX.out]; omega)
  have hS : s2 xs i q = xs.getD (i + 2 * q) 0 - 2 * xs.getD (i + q) 0 + xs.getD i 0 := rfl
  obtain ⟨Q2, hQ2⟩ : ∃ Q2, Q2 = 2 * q := ⟨_, rfl⟩
  obtain ⟨I2, hI2⟩ : ∃ I2, I2 = i + 2 * q := ⟨_, rfl⟩
  obtain ⟨I1, hI1⟩ : ∃ I1, I1 = i + q := ⟨_, rfl⟩
  rw [← hI2] at h1 q1 hS
  rw [← hI1] at h2 q2 hS
  obtain ⟨x, hx⟩ : ∃ x, x = xs.getD i 0 := ⟨_, rfl⟩
  obtain ⟨y, hy⟩ : ∃ x, x = xs.getD I1 0 := ⟨_, rfl⟩
  obtain ⟨z, hz⟩ : ∃ x, x = xs.getD I2 0 := ⟨_, rfl⟩
  rw [← hx] at h3 q3 hS
  rw [← hy] at h2 q2 hS
  rw [← hz] at h1 q1 hS
  have t1 : IntKind.i64.wrap (2 * (q : Int)) = (Q2 : Int) := by rw [IntWalk.i64_in _ (by omega)]; omega
  have t2 : IntKind.i64.wrap ((i : Int) + (Q2 : Int)) = (I2 : Int) := by rw [IntWalk.i64_in _ (by omega)]; omega
  have t3 : IntKind.i64.wrap ((i : Int) + (q : Int)) = (I1 : Int) := by rw [IntWalk.i64_in _ (by omega)]; omega
  have t4 : IntKind.i64.wrap (2 * y) = 2 * y := IntWalk.i64_in _ (by omega)
  have t5 : IntKind.i64.wrap (z - 2 * y) = z - 2 * y := IntWalk.i64_in _ (by omega)
  have t6 : IntKind.i64.wrap (z - 2 * y + x) = z - 2 * y + x := IntWalk.i64_in _ (by omega)
  have a1 : (0 : Int) ≤ (I2 : Int) := Int.natCast_nonneg _
  have a2 : (I2 : Int) < (n : Int) := by omega
  have a3 : (0 : Int) ≤ (I1 : Int) := Int.natCast_nonneg _
  have a4 : (I1 : Int) < (n : Int) := by omega
  have a5 : (0 : Int) ≤ (i : Int) := Int.natCast_nonneg _
  have a6 : (i : Int) < (n : Int) := by omega
  have HS := Lib.hid hS
  clear hcell hX hO h1 h2 h3 hQ2 hI2 hI1 hx hy hz hS
  go_enter Try.func40, Try.ntmps40
  go_wp2
  go_quiet (fail)
  go_wp2
  go_ret
  exact ⟨by rw [HS.out]; rfl, (Frm.refl w NoB).drewN _⟩


/-- The absolute value of an element. -/
def absd (ds : List Int) (i : Nat) : Nat := (ds.getD i 0).natAbs
theorem absd_or (ds : List Int) (i : Nat) : ds.getD i 0 = (absd ds i : Int) ∨ ds.getD i 0 = -(absd ds i : Int) := by unfold absd; omega
set_option maxHeartbeats 8000000 in
theorem squares_t (A : Option Addr) (n c B : Nat) (ds : List Int) (w : World) (hX : LI w A n B ds) (hb : ∀ j, j < n → absd ds j ≤ 9007199254740992) :
    Calls Try.prog 41 #[.slice A n c] w fun e w' => e = .returned (if sqs (absd ds) n ≤ 9223372036854775807 then .tuple #[.int .i64 (sqs (absd ds) n : Nat), .bool true] else .tuple #[.int .i64 0, .bool false]) ∧ Frm w w' NoB := by
  have hn := hX.hn
  have hF : Frm w w NoB := Frm.refl w _
  obtain ⟨R, hR⟩ : ∃ R, R = (if sqs (absd ds) n ≤ 9223372036854775807 then Value.tuple #[.int .i64 (sqs (absd ds) n : Nat), .bool true] else .tuple #[.int .i64 0, .bool false]) := ⟨_, rfl⟩
  rw [← hR]
  have HR := Lib.hid hR
  clear hR
  go_enter Try.func41, Try.ntmps41
  go_wp2
  go_loopw [4, 5, 6, 7] (fun s i _ _ wr => ∃ k S : Nat, k ≤ n ∧ i = .int .i64 k ∧ s = .int .i64 S ∧ Hid (S = sqs (absd ds) k) ∧ S ≤ 9223372036854775807 ∧ Frm w wr NoB) (fun _ i _ _ _ => n - (intOf i).toNat)
  case atStart => exact ⟨0, 0, Nat.zero_le _, rfl, rfl, rfl, by decide, hF⟩
  case round =>
    clear hF
    obtain ⟨k, S, hk, rfl, rfl, HS, hSb, hF⟩ := hrel
    by_cases hlt : k < n
    · obtain ⟨b, o, rfl, _, hcell⟩ := (hX.frm hF).hA.pos (by rw [hX.HN]; omega)
      have qk := hcell k (by rw [hX.HN]; omega)
      have hab := absd_or ds k
      have hyb := hb k hlt
      have hse : sqs (absd ds) (k + 1) = absd ds k * absd ds k + sqs (absd ds) k := rfl
      have hmono := sqs_mono (absd ds) (show k + 1 ≤ n by omega)
      rw [← HS.out] at hse
      obtain ⟨x, hx⟩ : ∃ x, x = ds.getD k 0 := ⟨_, rfl⟩
      obtain ⟨y, hy⟩ : ∃ y, y = absd ds k := ⟨_, rfl⟩
      rw [← hx] at qk hab
      rw [← hy] at hab hyb hse
      have hmul := fun w => mul_t x y w hab (by omega)
      have hk0 : (0 : Int) ≤ (k : Int) := Int.natCast_nonneg _
      have hk1 : (k : Int) < (n : Int) := by omega
      obtain ⟨M, hM⟩ : ∃ M, M = y * y := ⟨_, rfl⟩
      rw [← hM] at hse hmul
      by_cases hm : M ≤ 9223372036854775807
      · rw [if_pos hm] at hmul
        have hadd := fun w => add_t S M w hSb hm
        by_cases hs : S + M ≤ 9223372036854775807
        · rw [if_pos hs] at hadd
          have HS2 : Hid (S + M = sqs (absd ds) (k + 1)) := by unfold Hid; rw [hse]; omega
          obtain ⟨T, hT⟩ : ∃ T, T = S + M := ⟨_, rfl⟩
          rw [← hT] at hadd HS2 hs
          have HM := Lib.hid hmul
          have HA := Lib.hid hadd
          clear hcell hx hy hmul hadd hse hmono hM hab hyb hT HS hX hb
          go_wp2
          go_region_held3 (fun w' => w'.cell? ⟨b, o + k, none⟩ = some (.int .i64 x))
            (first | exact qk)
            (first
              | (go_at_call 51; (with_reducible refine (HM.out _).mono ?_); rintro e y1 ⟨rfl, rfl⟩))
          all_goals
            go_wp2_with (first
              | (go_at_call 52; (with_reducible refine (HA.out _).mono ?_); rintro e y2 ⟨rfl, rfl⟩))
            go_roundw
            case rel => exact ⟨k + 1, T, by omega, by go_num, rfl, HS2, hs, hF.drewN _⟩
            case measure => simp [intOf]; omega
        · rw [if_neg hs] at hadd
          have hRv : R = .tuple #[.int .i64 0, .bool false] := by rw [HR.out, if_neg (by omega)]
          have HM := Lib.hid hmul
          have HA := Lib.hid hadd
          clear hcell hx hy hmul hadd hse hmono hM hab hyb hs HS hX hb
          go_wp2
          go_region_held3 (fun w' => w'.cell? ⟨b, o + k, none⟩ = some (.int .i64 x))
            (first | exact qk)
            (first
              | (go_at_call 51; (with_reducible refine (HM.out _).mono ?_); rintro e y1 ⟨rfl, rfl⟩))
          all_goals
            go_wp2_with (first
              | (go_at_call 52; (with_reducible refine (HA.out _).mono ?_); rintro e y2 ⟨rfl, rfl⟩))
            go_ret2
            exact ⟨by rw [hRv]; rfl, hF.drewN _⟩
      · rw [if_neg hm] at hmul
        have hRv : R = .tuple #[.int .i64 0, .bool false] := by rw [HR.out, if_neg (by omega)]
        have HM := Lib.hid hmul
        clear hcell hx hy hmul hse hmono hM hab hyb hm HS hX hb
        go_wp2
        go_region_held3 (fun w' => w'.cell? ⟨b, o + k, none⟩ = some (.int .i64 x))
          (first | exact qk)
          (first
            | (go_at_call 51; (with_reducible refine (HM.out _).mono ?_); rintro e y1 ⟨rfl, rfl⟩))
        all_goals
          go_wp2
          go_ret2
          exact ⟨by rw [hRv]; rfl, hF.drewN _⟩
    · have hkn : k = n := by omega
      have hRv : R = .tuple #[.int .i64 (S : Int), .bool true] := by rw [HR.out, ← hkn, ← HS.out, if_pos hSb]
      clear hkn hX hb HS
      go_wp2
      go_ret2
      exact ⟨by rw [hRv]; rfl, hF⟩

set_option maxHeartbeats 4000000 in
theorem rat_t (x d : Nat) (w : World) (hd : 0 < d) (hx : x ≤ 9223372036854775807) (hd2 : d ≤ 9223372036854775807) :
    Calls Try.prog 42 #[.int .i64 (x : Int), .int .i64 (d : Int)] w fun e w' => e = .returned (.agg #[.int .i64 (x / Nat.gcd x d : Nat), .int .i64 (d / Nat.gcd x d : Nat)]) ∧ Frm w w' NoB := by
  have hF : Frm w (w.alloc (.cells #[.int .i64 0, .int .i64 0] 41)) NoB := (Frm.refl w NoB).alloc _
  have hB : Blk (w.alloc (.cells #[.int .i64 0, .int .i64 0] 41)) w.heap.size 41 #[.int .i64 0, .int .i64 0] := Blk.new _ _ _
  have hg : 0 < Nat.gcd x d := Nat.gcd_pos_of_pos_right _ hd
  obtain ⟨g, hgg⟩ : ∃ g, Nat.gcd x d = g := ⟨_, rfl⟩
  have HG := Lib.hid hgg
  rw [hgg] at hg ⊢
  obtain ⟨X, hX⟩ : ∃ X, x / g = X := ⟨_, rfl⟩
  obtain ⟨D, hD⟩ : ∃ D, d / g = D := ⟨_, rfl⟩
  rw [hX, hD]
  have hX1 : X ≤ x := by rw [← hX]; exact Nat.div_le_self _ _
  have hD1 : D ≤ d := by rw [← hD]; exact Nat.div_le_self _ _
  have t1 : ((x : Int)).tdiv (g : Int) = (X : Int) := by rw [← hX]; rfl
  have t2 : ((d : Int)).tdiv (g : Int) = (D : Int) := by rw [← hD]; rfl
  have t3 : IntKind.i64.wrap (X : Int) = (X : Int) := IntWalk.i64_in _ (by omega)
  have t4 : IntKind.i64.wrap (D : Int) = (D : Int) := IntWalk.i64_in _ (by omega)
  have hne : (g : Int) ≠ 0 := by omega
  have hne2 : ¬ g = 0 := by omega
  clear hgg hX hD
  go_enter Try.func42, Try.ntmps42
  go_wp2
  go_loopw [5, 6, 7] (fun u v _ wr => ∃ p y : Nat, p ≤ 9223372036854775807 ∧ y ≤ 9223372036854775807 ∧ u = .int .i64 p ∧ v = .int .i64 y ∧ Hid (Nat.gcd p y = g) ∧ Blk wr w.heap.size 41 #[.int .i64 0, .int .i64 0] ∧ Frm w wr NoB) (fun _ v _ _ => (intOf v).toNat)
  case atStart => exact ⟨x, d, hx, hd2, rfl, rfl, HG, hB, hF⟩
  case round =>
    clear hF hB
    obtain ⟨p, y, hp, hy, rfl, rfl, HP, hB, hF⟩ := hrel
    by_cases h0 : y = 0
    · subst h0
      have hpg : p = g := by have := HP.out; rw [Nat.gcd_zero_right] at this; exact this
      subst hpg
      go_wp2
      go_still_tail 7, (by kernel_rfl)
      change wpList _ _ _ _ _ wr.drew
      have hF2 : Frm w wr.drew NoB := hF.drew
      have hB2 : Blk wr.drew w.heap.size 41 #[.int .i64 0, .int .i64 0] := hB
      obtain ⟨w2, hw2⟩ : ∃ w2, w2 = wr.drew := ⟨_, rfl⟩
      rw [← hw2] at hF2 hB2 ⊢
      clear hw2 hF hB
      have z0 := hB2.frozen 0
      have z1 := hB2.frozen 1
      have g0 := hB2.cellIs (i := 0) rfl
      have g1 := hB2.cellIs (i := 1) rfl
      have hB3 := (hB2.put 0 (.int .i64 (X : Int))).put 1 (.int .i64 (D : Int))
      have hF3 := (hF2.put (b := w.heap.size) (fun h => absurd h (Nat.lt_irrefl _)) 0 (.int .i64 (X : Int))).put (b := w.heap.size) (fun h => absurd h (Nat.lt_irrefl _)) 1 (.int .i64 (D : Int))
      have c0 := hB3.cellIs (i := 0) rfl
      have c1 := hB3.cellIs (i := 1) rfl
      go_wp2
      refine bodyPost_ret (v := .agg #[.int .i64 (X : Int), .int .i64 (D : Int)]) (by simp [results, Try.results42, go_sem, c0, c1]) rfl ?_
      exact ⟨rfl, hF3⟩
    · have hb : ((y : Int) != 0) = true := by rw [bne_iff_ne]; omega
      have hney : (y : Int) ≠ 0 := by omega
      have hlt := Nat.mod_lt p (show 0 < y by omega)
      obtain ⟨r, hr⟩ : ∃ r, r = p % y := ⟨_, rfl⟩
      have u1 : ((p : Int)).tmod (y : Int) = (r : Int) := by rw [hr]; rfl
      have u2 : IntKind.i64.wrap (r : Int) = (r : Int) := IntWalk.i64_in _ (by omega)
      have HG2 : Hid (Nat.gcd y r = g) := by unfold Hid; rw [hr, ← HP.out, Nat.gcd_comm p y, Nat.gcd_rec y p, Nat.gcd_comm]
      have hry : r < y := by omega
      clear hr hlt h0
      go_wp2
      go_roundw
      case rel => exact ⟨y, r, hy, by omega, by trivial, by trivial, HG2, hB, hF⟩
      case measure => simp [intOf]; omega
end Go.Proofs.Ythpakpljfgmkfaa
