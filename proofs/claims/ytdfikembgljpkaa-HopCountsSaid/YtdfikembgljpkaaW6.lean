/- serve, with each of the closures. -/
import Derived.Test.YtdfikembgljpkaaW5
namespace Go.Proofs.Ytdfikembgljpkaa
open Go.RowKit

set_option maxHeartbeats 8000000 in theorem serve31 {I : Nat → World → Prop} (A A2 : Option Addr) (n c c2 B g : Nat) (xs ys : List Int) (w : World) (hX : LI w A n B xs) (hY : LI w A2 n B ys) (hn : n ≤ 512) (hw : fits xs ys n) (h0 : I 0 w) (hstep : ∀ k wr, k < n → I k wr → Frm w wr (Up B) → Calls Try.prog 31 #[.int .i64 (xs.getD k 0), .int .i64 (ys.getD k 0), .int .i64 (dl xs ys (k + 1)), .pointer (some ⟨g, 0, none⟩)] wr fun e w' => e = .returned (.tuple #[]) ∧ I (k + 1) w' ∧ Frm wr w' (Up B)) : Calls Try.prog 28 #[.slice A n c, .slice A2 n c2, .func (.func 31) #[] #[.pointer (some ⟨g, 0, none⟩)]] w fun e w' => e = .returned (.tuple #[]) ∧ I n w' ∧ Frm w w' (Up B) := by
  have hF : Frm w w (Up B) := Frm.refl w _
  have HX := Lib.hid hX.HN
  have HY := Lib.hid hY.HN
  have hA := hX.hA
  have hA2 := hY.hA
  have hBw := hX.hB
  have HW := Lib.hid hw
  have HS := Lib.hid hstep
  clear hX hY hw hstep
  go_enter Try.func28, Try.ntmps28
  go_wp2
  go_loopw [6, 11, 7, 8] (fun s i _ _ wr => ∃ k : Nat, k ≤ n ∧ i = .int .i64 k ∧ s = .int .i64 (dl xs ys k) ∧ I k wr ∧ Frm w wr (Up B)) (fun _ i _ _ _ => n - (intOf i).toNat)
  case atStart => exact ⟨0, Nat.zero_le _, rfl, rfl, h0, hF⟩
  case round =>
    clear hF h0
    obtain ⟨k, hk, rfl, rfl, hI, hF⟩ := hrel
    by_cases hlt : k < n
    · have hA' := hA.frm hF hBw (fun i h1 h2 => absurd h1 (Nat.not_lt.2 h2))
      have hA2' := hA2.frm hF hBw (fun i h1 h2 => absurd h1 (Nat.not_lt.2 h2))
      obtain ⟨b, o, rfl, _, hcell⟩ := hA'.pos (by rw [HX.out]; omega)
      obtain ⟨b2, o2, rfl, _, hcell2⟩ := hA2'.pos (by rw [HY.out]; omega)
      have q1 := hcell k (by rw [HX.out]; omega)
      have q2 := hcell2 k (by rw [HY.out]; omega)
      have hs : dl xs ys (k + 1) = mx (xs.getD k 0) (dl xs ys k) + ys.getD k 0 := rfl
      have hwr := HW.out k hlt
      have hc := HS.out k wr hlt hI hF
      obtain ⟨x, hx⟩ : ∃ x, x = xs.getD k 0 := ⟨_, rfl⟩
      obtain ⟨y, hy⟩ : ∃ y, y = ys.getD k 0 := ⟨_, rfl⟩
      obtain ⟨l, hl⟩ : ∃ l, l = dl xs ys k := ⟨_, rfl⟩
      rw [← hx] at q1 hs hwr hc
      rw [← hy] at q2 hs hwr hc
      rw [← hl] at hs hwr ⊢
      unfold mx at hs hwr
      rw [← hs] at hwr
      obtain ⟨D, hD⟩ : ∃ D, D = dl xs ys (k + 1) := ⟨_, rfl⟩
      rw [← hD] at hs hwr hc
      have HD := Lib.hid hD
      have HC := Lib.hid hc
      clear hx hy hl hcell hcell2 hA hA2 hA' hA2' hD hc
      have hk0 : (0 : Int) ≤ (k : Int) := Int.natCast_nonneg _
      have hk1 : (k : Int) < (n : Int) := by omega
      by_cases hxl : x < l
      · rw [if_pos hxl] at hs
        have hs2 := hs.symm
        clear hs
        (go_wp2_with (first | (go_at_call 31; (with_reducible refine (HC.out).mono ?_); rintro e w2 ⟨rfl, hI2, f2⟩)); go_roundw; (case rel => exact ⟨k + 1, by omega, by go_num, by rw [← HD.out], hI2, hF.trans f2 (fun _ _ h => h)⟩); (case measure => (simp [intOf]; omega)))
      · rw [if_neg hxl] at hs
        have hs2 := hs.symm
        clear hs
        (go_wp2_with (first | (go_at_call 31; (with_reducible refine (HC.out).mono ?_); rintro e w2 ⟨rfl, hI2, f2⟩)); go_roundw; (case rel => exact ⟨k + 1, by omega, by go_num, by rw [← HD.out], hI2, hF.trans f2 (fun _ _ h => h)⟩); (case measure => (simp [intOf]; omega)))
    · have hkn : k = n := by omega
      subst hkn
      clear hA hA2
      go_wp2
      refine bodyPost_end (v := .tuple #[]) (by simp [results, Try.results28]) rfl ?_
      exact ⟨rfl, hI, hF⟩

set_option maxHeartbeats 8000000 in theorem serve29 {I : Nat → World → Prop} (A A2 : Option Addr) (n c c2 B g : Nat) (xs ys : List Int) (w : World) (hX : LI w A n B xs) (hY : LI w A2 n B ys) (hn : n ≤ 512) (hw : fits xs ys n) (h0 : I 0 w) (hstep : ∀ k wr, k < n → I k wr → Frm w wr (Up B) → Calls Try.prog 29 #[.int .i64 (xs.getD k 0), .int .i64 (ys.getD k 0), .int .i64 (dl xs ys (k + 1)), .pointer (some ⟨g, 0, none⟩)] wr fun e w' => e = .returned (.tuple #[]) ∧ I (k + 1) w' ∧ Frm wr w' (Up B)) : Calls Try.prog 28 #[.slice A n c, .slice A2 n c2, .func (.func 29) #[] #[.pointer (some ⟨g, 0, none⟩)]] w fun e w' => e = .returned (.tuple #[]) ∧ I n w' ∧ Frm w w' (Up B) := by
  have hF : Frm w w (Up B) := Frm.refl w _
  have HX := Lib.hid hX.HN
  have HY := Lib.hid hY.HN
  have hA := hX.hA
  have hA2 := hY.hA
  have hBw := hX.hB
  have HW := Lib.hid hw
  have HS := Lib.hid hstep
  clear hX hY hw hstep
  go_enter Try.func28, Try.ntmps28
  go_wp2
  go_loopw [6, 11, 7, 8] (fun s i _ _ wr => ∃ k : Nat, k ≤ n ∧ i = .int .i64 k ∧ s = .int .i64 (dl xs ys k) ∧ I k wr ∧ Frm w wr (Up B)) (fun _ i _ _ _ => n - (intOf i).toNat)
  case atStart => exact ⟨0, Nat.zero_le _, rfl, rfl, h0, hF⟩
  case round =>
    clear hF h0
    obtain ⟨k, hk, rfl, rfl, hI, hF⟩ := hrel
    by_cases hlt : k < n
    · have hA' := hA.frm hF hBw (fun i h1 h2 => absurd h1 (Nat.not_lt.2 h2))
      have hA2' := hA2.frm hF hBw (fun i h1 h2 => absurd h1 (Nat.not_lt.2 h2))
      obtain ⟨b, o, rfl, _, hcell⟩ := hA'.pos (by rw [HX.out]; omega)
      obtain ⟨b2, o2, rfl, _, hcell2⟩ := hA2'.pos (by rw [HY.out]; omega)
      have q1 := hcell k (by rw [HX.out]; omega)
      have q2 := hcell2 k (by rw [HY.out]; omega)
      have hs : dl xs ys (k + 1) = mx (xs.getD k 0) (dl xs ys k) + ys.getD k 0 := rfl
      have hwr := HW.out k hlt
      have hc := HS.out k wr hlt hI hF
      obtain ⟨x, hx⟩ : ∃ x, x = xs.getD k 0 := ⟨_, rfl⟩
      obtain ⟨y, hy⟩ : ∃ y, y = ys.getD k 0 := ⟨_, rfl⟩
      obtain ⟨l, hl⟩ : ∃ l, l = dl xs ys k := ⟨_, rfl⟩
      rw [← hx] at q1 hs hwr hc
      rw [← hy] at q2 hs hwr hc
      rw [← hl] at hs hwr ⊢
      unfold mx at hs hwr
      rw [← hs] at hwr
      obtain ⟨D, hD⟩ : ∃ D, D = dl xs ys (k + 1) := ⟨_, rfl⟩
      rw [← hD] at hs hwr hc
      have HD := Lib.hid hD
      have HC := Lib.hid hc
      clear hx hy hl hcell hcell2 hA hA2 hA' hA2' hD hc
      have hk0 : (0 : Int) ≤ (k : Int) := Int.natCast_nonneg _
      have hk1 : (k : Int) < (n : Int) := by omega
      by_cases hxl : x < l
      · rw [if_pos hxl] at hs
        have hs2 := hs.symm
        clear hs
        (go_wp2_with (first | (go_at_call 29; (with_reducible refine (HC.out).mono ?_); rintro e w2 ⟨rfl, hI2, f2⟩)); go_roundw; (case rel => exact ⟨k + 1, by omega, by go_num, by rw [← HD.out], hI2, hF.trans f2 (fun _ _ h => h)⟩); (case measure => (simp [intOf]; omega)))
      · rw [if_neg hxl] at hs
        have hs2 := hs.symm
        clear hs
        (go_wp2_with (first | (go_at_call 29; (with_reducible refine (HC.out).mono ?_); rintro e w2 ⟨rfl, hI2, f2⟩)); go_roundw; (case rel => exact ⟨k + 1, by omega, by go_num, by rw [← HD.out], hI2, hF.trans f2 (fun _ _ h => h)⟩); (case measure => (simp [intOf]; omega)))
    · have hkn : k = n := by omega
      subst hkn
      clear hA hA2
      go_wp2
      refine bodyPost_end (v := .tuple #[]) (by simp [results, Try.results28]) rfl ?_
      exact ⟨rfl, hI, hF⟩

set_option maxHeartbeats 8000000 in theorem serve30 {I : Nat → World → Prop} (A A2 : Option Addr) (n c c2 B g : Nat) (xs ys : List Int) (w : World) (hX : LI w A n B xs) (hY : LI w A2 n B ys) (hn : n ≤ 512) (hw : fits xs ys n) (h0 : I 0 w) (hstep : ∀ k wr, k < n → I k wr → Frm w wr (Up B) → Calls Try.prog 30 #[.int .i64 (xs.getD k 0), .int .i64 (ys.getD k 0), .int .i64 (dl xs ys (k + 1)), .pointer (some ⟨g, 0, none⟩)] wr fun e w' => e = .returned (.tuple #[]) ∧ I (k + 1) w' ∧ Frm wr w' (Up B)) : Calls Try.prog 28 #[.slice A n c, .slice A2 n c2, .func (.func 30) #[] #[.pointer (some ⟨g, 0, none⟩)]] w fun e w' => e = .returned (.tuple #[]) ∧ I n w' ∧ Frm w w' (Up B) := by
  have hF : Frm w w (Up B) := Frm.refl w _
  have HX := Lib.hid hX.HN
  have HY := Lib.hid hY.HN
  have hA := hX.hA
  have hA2 := hY.hA
  have hBw := hX.hB
  have HW := Lib.hid hw
  have HS := Lib.hid hstep
  clear hX hY hw hstep
  go_enter Try.func28, Try.ntmps28
  go_wp2
  go_loopw [6, 11, 7, 8] (fun s i _ _ wr => ∃ k : Nat, k ≤ n ∧ i = .int .i64 k ∧ s = .int .i64 (dl xs ys k) ∧ I k wr ∧ Frm w wr (Up B)) (fun _ i _ _ _ => n - (intOf i).toNat)
  case atStart => exact ⟨0, Nat.zero_le _, rfl, rfl, h0, hF⟩
  case round =>
    clear hF h0
    obtain ⟨k, hk, rfl, rfl, hI, hF⟩ := hrel
    by_cases hlt : k < n
    · have hA' := hA.frm hF hBw (fun i h1 h2 => absurd h1 (Nat.not_lt.2 h2))
      have hA2' := hA2.frm hF hBw (fun i h1 h2 => absurd h1 (Nat.not_lt.2 h2))
      obtain ⟨b, o, rfl, _, hcell⟩ := hA'.pos (by rw [HX.out]; omega)
      obtain ⟨b2, o2, rfl, _, hcell2⟩ := hA2'.pos (by rw [HY.out]; omega)
      have q1 := hcell k (by rw [HX.out]; omega)
      have q2 := hcell2 k (by rw [HY.out]; omega)
      have hs : dl xs ys (k + 1) = mx (xs.getD k 0) (dl xs ys k) + ys.getD k 0 := rfl
      have hwr := HW.out k hlt
      have hc := HS.out k wr hlt hI hF
      obtain ⟨x, hx⟩ : ∃ x, x = xs.getD k 0 := ⟨_, rfl⟩
      obtain ⟨y, hy⟩ : ∃ y, y = ys.getD k 0 := ⟨_, rfl⟩
      obtain ⟨l, hl⟩ : ∃ l, l = dl xs ys k := ⟨_, rfl⟩
      rw [← hx] at q1 hs hwr hc
      rw [← hy] at q2 hs hwr hc
      rw [← hl] at hs hwr ⊢
      unfold mx at hs hwr
      rw [← hs] at hwr
      obtain ⟨D, hD⟩ : ∃ D, D = dl xs ys (k + 1) := ⟨_, rfl⟩
      rw [← hD] at hs hwr hc
      have HD := Lib.hid hD
      have HC := Lib.hid hc
      clear hx hy hl hcell hcell2 hA hA2 hA' hA2' hD hc
      have hk0 : (0 : Int) ≤ (k : Int) := Int.natCast_nonneg _
      have hk1 : (k : Int) < (n : Int) := by omega
      by_cases hxl : x < l
      · rw [if_pos hxl] at hs
        have hs2 := hs.symm
        clear hs
        (go_wp2_with (first | (go_at_call 30; (with_reducible refine (HC.out).mono ?_); rintro e w2 ⟨rfl, hI2, f2⟩)); go_roundw; (case rel => exact ⟨k + 1, by omega, by go_num, by rw [← HD.out], hI2, hF.trans f2 (fun _ _ h => h)⟩); (case measure => (simp [intOf]; omega)))
      · rw [if_neg hxl] at hs
        have hs2 := hs.symm
        clear hs
        (go_wp2_with (first | (go_at_call 30; (with_reducible refine (HC.out).mono ?_); rintro e w2 ⟨rfl, hI2, f2⟩)); go_roundw; (case rel => exact ⟨k + 1, by omega, by go_num, by rw [← HD.out], hI2, hF.trans f2 (fun _ _ h => h)⟩); (case measure => (simp [intOf]; omega)))
    · have hkn : k = n := by omega
      subst hkn
      clear hA hA2
      go_wp2
      refine bodyPost_end (v := .tuple #[]) (by simp [results, Try.results28]) rfl ?_
      exact ⟨rfl, hI, hF⟩
end Go.Proofs.Ytdfikembgljpkaa
