/- The closure of Allan: the sum of the squares of the second differences. -/
import Derived.Test.YthpakpljfgmkfaaW5
namespace Go.Proofs.Ythpakpljfgmkfaa
open Go.RowKit

theorem LI.frmg {w w' : World} {A : Option Addr} {n B g : Nat} {xs : List Int} (h : LI w A n B xs) (f : Frm w w' (· = g)) (hg : B ≤ g) : LI w' A n B xs :=
  ⟨h.hn, h.HN, h.hA.frm f h.hB (fun i hi e => by have e : i = g := e; omega), Nat.le_trans h.hB f.size⟩
/-- The sum of the first k squares. -/
def sqs (f : Nat → Nat) : Nat → Nat
  | 0 => 0
  | k + 1 => f k * f k + sqs f k
theorem sqs_mono (f : Nat → Nat) {k n : Nat} (h : k ≤ n) : sqs f k ≤ sqs f n := by
  induction n with
  | zero => obtain rfl : k = 0 := by omega
            exact Nat.le_refl _
  | succ n ih =>
    rcases Nat.lt_or_ge k (n + 1) with h1 | h1
    · have e : sqs f (n + 1) = f n * f n + sqs f n := rfl
      have := ih (by omega)
      omega
    · obtain rfl : k = n + 1 := by omega
      exact Nat.le_refl _
/-- The absolute value of the second difference. -/
def a2 (xs : List Int) (q : Nat) (i : Nat) : Nat := (s2 xs i q).natAbs
theorem second_b {A : Option Addr} {n c i q B : Nat} {xs : List Int} {w : World} (hX : LI w A n B xs) (HO : Hid (okl xs xs.length)) (hn : n ≤ 1024) (hi : i + 2 * q < n) :
    Calls Try.prog 38 #[.slice A n c, .int .i64 (i : Int), .int .i64 (q : Int)] w fun e w' => e = .returned (.int .i64 (s2 xs i q)) ∧ Frm w w' NoB := second_t A n c i q B xs w hX HO.out hn hi
theorem s2_abs (xs : List Int) (i q : Nat) : s2 xs i q = (a2 xs q i : Int) ∨ s2 xs i q = -(a2 xs q i : Int) := by unfold a2; omega

section
variable (A : Option Addr) (n c q m B g g1 g2 g3 : Nat) (xs : List Int) (w : World)
set_option maxHeartbeats 8000000 in
theorem allan1_ok (hX : LI w A n B xs) (HO : Hid (okl xs xs.length)) (hn : n ≤ 1024) (hm : m + 2 * q = n) (hBg : B ≤ g) (hg : Blk w g 65 #[.int .i64 0])
    (h1 : Blk w g1 3 #[.int .i64 (m : Int)]) (h2 : Blk w g2 23 #[.slice A n c]) (h3 : Blk w g3 3 #[.int .i64 (q : Int)]) (hs : sqs (a2 xs q) m ≤ 9223372036854775807) :
    Calls Try.prog 36 #[.pointer (some ⟨g, 0, none⟩), .pointer (some ⟨g1, 0, none⟩), .pointer (some ⟨g2, 0, none⟩), .pointer (some ⟨g3, 0, none⟩)] w fun e w' =>
      e = .returned (.tuple #[]) ∧ Blk w' g 65 #[.int .i64 (sqs (a2 xs q) m : Nat)] ∧ Frm w w' (· = g) := by
  have hF : Frm w w (· = g) := Frm.refl w _
  have k1 : w.cell? ⟨g1, 0, none⟩ = some (.int .i64 (m : Int)) := h1.cellIs rfl
  go_enter Try.func36, Try.ntmps36
  go_wp2
  go_loopw [5, 7] (fun _ i wr => ∃ k : Nat, k ≤ m ∧ i = .int .i64 k ∧ Blk wr g 65 #[.int .i64 (sqs (a2 xs q) k : Nat)] ∧ Frm w wr (· = g)) (fun _ i _ => m - (intOf i).toNat)
  case atStart => exact ⟨0, Nat.zero_le _, rfl, hg, hF⟩
  case round =>
    clear hF
    obtain ⟨k, hk, rfl, hG, hF⟩ := hrel
    by_cases hlt : k < m
    · have hX' := hX.frmg hF hBg
      have hb1 := h1.frm hF (Blk.ne h1 hg (by decide))
      have hb2 := h2.frm hF (Blk.ne h2 hg (by decide))
      have hb3 := h3.frm hF (Blk.ne h3 hg (by decide))
      have c1 : wr.cell? ⟨g1, 0, none⟩ = some (.int .i64 (m : Int)) := hb1.cellIs rfl
      have c2 : wr.cell? ⟨g2, 0, none⟩ = some (.slice A n c) := hb2.cellIs rfl
      have c3 : wr.cell? ⟨g3, 0, none⟩ = some (.int .i64 (q : Int)) := hb3.cellIs rfl
      have hk0 : (0 : Int) ≤ (k : Int) := Int.natCast_nonneg _
      have hk1 : (k : Int) < (m : Int) := by omega
      have hsk := sqs_mono (a2 xs q) (show k + 1 ≤ m by omega)
      have hse : sqs (a2 xs q) (k + 1) = a2 xs q k * a2 xs q k + sqs (a2 xs q) k := rfl
      have hab := s2_abs xs k q
      have hsb := s2_bounds HO.out (i := k) (q := q) (by rw [hX.HN]; omega)
      obtain ⟨S, hS⟩ : ∃ S, S = sqs (a2 xs q) k := ⟨_, rfl⟩
      obtain ⟨x, hx⟩ : ∃ x, x = s2 xs k q := ⟨_, rfl⟩
      obtain ⟨y, hy⟩ : ∃ y, y = a2 xs q k := ⟨_, rfl⟩
      have hsec := fun wr (h : LI wr A n B xs) => second_b (c := c) (i := k) (q := q) h HO hn (by omega)
      rw [← hx] at hsec hab hsb
      rw [← hy] at hab hse
      rw [← hS] at hG hse
      have hle : y * y + S ≤ 9223372036854775807 := by omega
      have HSE := Lib.hid hse
      have HSEC := Lib.hid hsec
      have hyb : y ≤ 9223372036854775807 := by omega
      clear hsk hse hS hx hy hsec hs hX
      go_wp2_with (first
        | (go_at_call 38; (with_reducible refine (HSEC.out _ hX').mono ?_); rintro e x1 ⟨rfl, f1⟩; replace hG := hG.frm f1 (fun h => h); replace hF := hF.trans f1 (fun _ _ h => h.elim); clear f1)
        | (go_at_call 37; (with_reducible refine (add_ok g S y x _ hab hG hle hyb).mono ?_); rintro e x2 ⟨rfl, hG2, f2⟩; replace hF := hF.trans f2 (fun _ _ h => h); clear f2))
      go_roundw
      case rel => exact ⟨k + 1, by omega, by go_num, by rw [HSE.out]; exact hG2, hF⟩
      case measure => simp [intOf]; omega
    · have hkm : k = m := by omega
      subst hkm
      clear hX
      go_wp2
      refine bodyPost_end (v := .tuple #[]) (by simp [results, Try.results36]) rfl ?_
      exact ⟨rfl, hG, hF⟩

set_option maxHeartbeats 8000000 in
theorem allan1_bad (hX : LI w A n B xs) (HO : Hid (okl xs xs.length)) (hn : n ≤ 1024) (hm : m + 2 * q = n) (hBg : B ≤ g) (hg : Blk w g 65 #[.int .i64 0])
    (h1 : Blk w g1 3 #[.int .i64 (m : Int)]) (h2 : Blk w g2 23 #[.slice A n c]) (h3 : Blk w g3 3 #[.int .i64 (q : Int)]) (hs : 9223372036854775807 < sqs (a2 xs q) m) :
    Calls Try.prog 36 #[.pointer (some ⟨g, 0, none⟩), .pointer (some ⟨g1, 0, none⟩), .pointer (some ⟨g2, 0, none⟩), .pointer (some ⟨g3, 0, none⟩)] w fun e w' =>
      e = .panicked ovr ∧ Frm w w' (· = g) := by
  have hF : Frm w w (· = g) := Frm.refl w _
  have k1 : w.cell? ⟨g1, 0, none⟩ = some (.int .i64 (m : Int)) := h1.cellIs rfl
  go_enter Try.func36, Try.ntmps36
  go_wp2
  go_loopw [5, 7] (fun _ i wr => ∃ k : Nat, k ≤ m ∧ i = .int .i64 k ∧ Blk wr g 65 #[.int .i64 (sqs (a2 xs q) k : Nat)] ∧ Hid (sqs (a2 xs q) k ≤ 9223372036854775807) ∧ Frm w wr (· = g)) (fun _ i _ => m - (intOf i).toNat)
  case atStart => exact ⟨0, Nat.zero_le _, rfl, hg, show 0 ≤ 9223372036854775807 by decide, hF⟩
  case round =>
    clear hF
    obtain ⟨k, hk, rfl, hG, HL, hF⟩ := hrel
    by_cases hlt : k < m
    · have hX' := hX.frmg hF hBg
      have hb1 := h1.frm hF (Blk.ne h1 hg (by decide))
      have hb2 := h2.frm hF (Blk.ne h2 hg (by decide))
      have hb3 := h3.frm hF (Blk.ne h3 hg (by decide))
      have c1 : wr.cell? ⟨g1, 0, none⟩ = some (.int .i64 (m : Int)) := hb1.cellIs rfl
      have c2 : wr.cell? ⟨g2, 0, none⟩ = some (.slice A n c) := hb2.cellIs rfl
      have c3 : wr.cell? ⟨g3, 0, none⟩ = some (.int .i64 (q : Int)) := hb3.cellIs rfl
      have hk0 : (0 : Int) ≤ (k : Int) := Int.natCast_nonneg _
      have hk1 : (k : Int) < (m : Int) := by omega
      have hse : sqs (a2 xs q) (k + 1) = a2 xs q k * a2 xs q k + sqs (a2 xs q) k := rfl
      have hab := s2_abs xs k q
      have hsb := s2_bounds HO.out (i := k) (q := q) (by rw [hX.HN]; omega)
      have hle0 := HL.out
      obtain ⟨S, hS⟩ : ∃ S, S = sqs (a2 xs q) k := ⟨_, rfl⟩
      obtain ⟨x, hx⟩ : ∃ x, x = s2 xs k q := ⟨_, rfl⟩
      obtain ⟨y, hy⟩ : ∃ y, y = a2 xs q k := ⟨_, rfl⟩
      have hsec := fun wr (h : LI wr A n B xs) => second_b (c := c) (i := k) (q := q) h HO hn (by omega)
      rw [← hx] at hsec hab hsb
      rw [← hy] at hab hse
      rw [← hS] at hG hse hle0
      have HSE := Lib.hid hse
      have HSEC := Lib.hid hsec
      have hyb : y ≤ 9223372036854775807 := by omega
      by_cases hle : y * y + S ≤ 9223372036854775807
      · have HL2 : Hid (sqs (a2 xs q) (k + 1) ≤ 9223372036854775807) := by unfold Hid; rw [hse]; exact hle
        clear hse hS hx hy hsec hs hX HL
        go_wp2_with (first
          | (go_at_call 38; (with_reducible refine (HSEC.out _ hX').mono ?_); rintro e x1 ⟨rfl, f1⟩; replace hG := hG.frm f1 (fun h => h); replace hF := hF.trans f1 (fun _ _ h => h.elim); clear f1)
          | (go_at_call 37; (with_reducible refine (add_ok g S y x _ hab hG hle hyb).mono ?_); rintro e x2 ⟨rfl, hG2, f2⟩; replace hF := hF.trans f2 (fun _ _ h => h); clear f2))
        go_roundw
        case rel => exact ⟨k + 1, by omega, by go_num, by rw [HSE.out]; exact hG2, HL2, hF⟩
        case measure => simp [intOf]; omega
      · have hgt : 9223372036854775807 < y * y + S := by omega
        clear hse hS hx hy hsec hs hX HL hle
        go_wp2_with (first
          | (go_at_call 38; (with_reducible refine (HSEC.out _ hX').mono ?_); rintro e x1 ⟨rfl, f1⟩; replace hG := hG.frm f1 (fun h => h); replace hF := hF.trans f1 (fun _ _ h => h.elim); clear f1)
          | (go_at_call 37; (with_reducible refine (add_bad g S y x _ hab hG hgt hyb hle0).mono ?_); rintro e x2 ⟨rfl, f2⟩; replace hF := hF.trans f2 (fun _ _ h => h.elim); clear f2))
        exact ⟨rfl, rfl, hF⟩
    · have hkm : k = m := by omega
      subst hkm
      exact absurd HL.out (by omega)
end
end Go.Proofs.Ythpakpljfgmkfaa
