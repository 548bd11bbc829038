/- The closure of Modified. -/
import Derived.Test.YthpakpljfgmkfaaW9
namespace Go.Proofs.Ythpakpljfgmkfaa
open Go.RowKit

/-- The sum of the k second differences from j on. -/
def md0 (xs : List Int) (q j : Nat) : Nat → Int
  | 0 => 0
  | k + 1 => md0 xs q j k + s2 xs (j + k) q
theorem md0_bounds {xs : List Int} (h : okl xs xs.length) {j q : Nat} (hj : j + 3 * q ≤ xs.length) : ∀ k, k ≤ q → -(4398046511104 * (k : Int)) ≤ md0 xs q j k ∧ md0 xs q j k ≤ 4398046511104 * (k : Int)
  | 0, _ => ⟨by show _ ≤ (0 : Int); omega, by show (0 : Int) ≤ _; omega⟩
  | k + 1, hk => by
    have ih := md0_bounds h hj k (by omega)
    have := s2_bounds h (i := j + k) (q := q) (by omega)
    unfold md0
    omega
theorem md0_shift (xs : List Int) (q j : Nat) : ∀ k, md0 xs q (j + 1) k = md0 xs q j k + s2 xs (j + k) q - s2 xs j q
  | 0 => by show (0 : Int) = 0 + s2 xs (j + 0) q - s2 xs j q; rw [Nat.add_zero]; omega
  | k + 1 => by
    have ih := md0_shift xs q j k
    have e : j + 1 + k = j + (k + 1) := by omega
    show md0 xs q (j + 1) k + s2 xs (j + 1 + k) q = md0 xs q j k + s2 xs (j + k) q + s2 xs (j + (k + 1)) q - s2 xs j q
    rw [ih, e]; omega
theorem md_step (xs : List Int) (q j : Nat) : md0 xs q (j + 1) q = md0 xs q j q + (s2 xs (j + q) q - s2 xs j q) := by rw [md0_shift]; omega
/-- The absolute value of the sum of window j. -/
def mdA (xs : List Int) (q j : Nat) : Nat := (md0 xs q j q).natAbs
theorem md_abs (xs : List Int) (q j : Nat) : md0 xs q j q = (mdA xs q j : Int) ∨ md0 xs q j q = -(mdA xs q j : Int) := by unfold mdA; omega

section
variable (A : Option Addr) (n c q m B g g1 g2 g3 : Nat) (xs : List Int) (w : World)
set_option maxHeartbeats 8000000 in
theorem mod1_ok (hX : LI w A n B xs) (HO : Hid (okl xs xs.length)) (hn : n ≤ 1024) (hq : 1 ≤ q) (hm : m + 3 * q = n + 1) (hm1 : 1 ≤ m) (hBg : B ≤ g) (hg : Blk w g 65 #[.int .i64 0])
    (h1 : Blk w g1 3 #[.int .i64 (q : Int)]) (h2 : Blk w g2 23 #[.slice A n c]) (h3 : Blk w g3 3 #[.int .i64 (m : Int)]) (hs : sqs (mdA xs q) m ≤ 9223372036854775807) :
    Calls Try.prog 43 #[.pointer (some ⟨g, 0, none⟩), .pointer (some ⟨g1, 0, none⟩), .pointer (some ⟨g2, 0, none⟩), .pointer (some ⟨g3, 0, none⟩)] w fun e w' =>
      e = .returned (.tuple #[]) ∧ Blk w' g 65 #[.int .i64 (sqs (mdA xs q) m : Nat)] ∧ Frm w w' (· = g) := by
  have hF : Frm w w (· = g) := Frm.refl w _
  have k1 : w.cell? ⟨g1, 0, none⟩ = some (.int .i64 (q : Int)) := h1.cellIs rfl
  go_enter Try.func43, Try.ntmps43
  go_wp2
  go_loopw [5, 6, 9] (fun s _ i wr => ∃ k : Nat, k ≤ q ∧ i = .int .i64 k ∧ s = .int .i64 (md0 xs q 0 k) ∧ Blk wr g 65 #[.int .i64 0] ∧ Frm w wr (· = g)) (fun _ _ i _ => q - (intOf i).toNat)
  case atStart => exact ⟨0, Nat.zero_le _, rfl, rfl, hg, hF⟩
  case round =>
    clear hF
    obtain ⟨k, hk, rfl, rfl, hG, hF⟩ := hrel
    by_cases hlt : k < q
    · have hX' := hX.frmg hF hBg
      have hb1 := h1.frm hF (Blk.ne h1 hg (by decide))
      have hb2 := h2.frm hF (Blk.ne h2 hg (by decide))
      have hb3 := h3.frm hF (Blk.ne h3 hg (by decide))
      have c1 : wr.cell? ⟨g1, 0, none⟩ = some (.int .i64 (q : Int)) := hb1.cellIs rfl
      have c2 : wr.cell? ⟨g2, 0, none⟩ = some (.slice A n c) := hb2.cellIs rfl
      have c3 : wr.cell? ⟨g3, 0, none⟩ = some (.int .i64 (m : Int)) := hb3.cellIs rfl
      have hse : md0 xs q 0 (k + 1) = md0 xs q 0 k + s2 xs (0 + k) q := rfl
      rw [Nat.zero_add] at hse
      have hsb := s2_bounds HO.out (i := k) (q := q) (by rw [hX.HN]; omega)
      have hmb := md0_bounds HO.out (j := 0) (q := q) (by rw [hX.HN]; omega) k (by omega)
      have hq1024 : (k : Int) ≤ 1024 := by omega
      have hsec := fun wr (h : LI wr A n B xs) => second_b (c := c) (i := k) (q := q) h HO hn (by omega)
      obtain ⟨S, hS⟩ : ∃ S, S = md0 xs q 0 k := ⟨_, rfl⟩
      obtain ⟨x, hx⟩ : ∃ x, x = s2 xs k q := ⟨_, rfl⟩
      rw [← hx] at hsec hse hsb
      rw [← hS] at hse hmb ⊢
      have t1 : IntKind.i64.wrap (S + x) = S + x := IntWalk.i64_in _ (by omega)
      have HSE := Lib.hid hse
      have HSEC := Lib.hid hsec
      have hk0 : (0 : Int) ≤ (k : Int) := Int.natCast_nonneg _
      have hk1 : (k : Int) < (q : Int) := by omega
      clear hse hS hx hsec hX
      go_wp2_with (first
        | (go_at_call 38; (with_reducible refine (HSEC.out _ hX').mono ?_); rintro e x1 ⟨rfl, f1⟩; replace hG := hG.frm f1 (fun h => h); replace hF := hF.trans f1 (fun _ _ h => h.elim); clear f1))
      go_roundw
      case rel => exact ⟨k + 1, by omega, by go_num, by rw [HSE.out], hG, hF⟩
      case measure => simp [intOf]; omega
    · have hkm : k = q := by omega
      subst hkm
      have hab := md_abs xs k 0
      have hmb := md0_bounds HO.out (j := 0) (q := k) (by rw [hX.HN]; omega) k (Nat.le_refl _)
      have hs1 := sqs_mono (mdA xs k) hm1
      have hse : sqs (mdA xs k) 1 = mdA xs k 0 * mdA xs k 0 + 0 := rfl
      obtain ⟨S, hS⟩ : ∃ S, S = md0 xs k 0 k := ⟨_, rfl⟩
      obtain ⟨y, hy⟩ : ∃ y, y = mdA xs k 0 := ⟨_, rfl⟩
      rw [← hS] at hab hmb ⊢
      rw [← hy] at hab hse
      have hle : y * y + 0 ≤ 9223372036854775807 := by omega
      have hyb : y ≤ 9223372036854775807 := by omega
      have HSE := Lib.hid hse
      have HS := Lib.hid hS
      clear hse hy hS hs1
      have Hs := Lib.hid hs
      clear hs
      go_wp2_with (first
        | (go_at_call 37; (with_reducible refine (add_ok g 0 y S _ hab hG hle hyb).mono ?_); rintro e x2 ⟨rfl, hG2, f2⟩; replace hF := hF.trans f2 (fun _ _ h => h); clear f2))
      rw [← HSE.out] at hG2
      clear hG hab hmb hle hyb HSE
      go_loopw [5, 7] (fun s j wr => ∃ r : Nat, r + 1 ≤ m ∧ j = .int .i64 ((r + 1 : Nat) : Int) ∧ s = .int .i64 (md0 xs k r k) ∧ Blk wr g 65 #[.int .i64 (sqs (mdA xs k) (r + 1) : Nat)] ∧ Frm w wr (· = g)) (fun _ j _ => m - (intOf j).toNat)
      case atStart => exact ⟨0, hm1, rfl, by rw [HS.out], hG2, hF⟩
      case round =>
        clear hF hG2 HS
        obtain ⟨r, hr, rfl, rfl, hG, hF⟩ := hrel
        by_cases hlt2 : r + 1 < m
        · have hsm := sqs_mono (mdA xs k) (show r + 2 ≤ m by omega)
          have Hsm := Lib.hid hsm
          clear hsm
          have hX' := hX.frmg hF hBg
          have hb1 := h1.frm hF (Blk.ne h1 hg (by decide))
          have hb2 := h2.frm hF (Blk.ne h2 hg (by decide))
          have hb3 := h3.frm hF (Blk.ne h3 hg (by decide))
          have c1 : wr.cell? ⟨g1, 0, none⟩ = some (.int .i64 (k : Int)) := hb1.cellIs rfl
          have c2 : wr.cell? ⟨g2, 0, none⟩ = some (.slice A n c) := hb2.cellIs rfl
          have c3 : wr.cell? ⟨g3, 0, none⟩ = some (.int .i64 (m : Int)) := hb3.cellIs rfl
          have hse : sqs (mdA xs k) (r + 2) = mdA xs k (r + 1) * mdA xs k (r + 1) + sqs (mdA xs k) (r + 1) := rfl
          have hst := md_step xs k r
          have hs1 := s2_bounds HO.out (i := r + k) (q := k) (by rw [hX.HN]; omega)
          have hs0 := s2_bounds HO.out (i := r) (q := k) (by rw [hX.HN]; omega)
          have hmb := md0_bounds HO.out (j := r) (q := k) (by rw [hX.HN]; omega) k (by omega)
          have hmb1 := md0_bounds HO.out (j := r + 1) (q := k) (by rw [hX.HN]; omega) k (by omega)
          have hab := md_abs xs k (r + 1)
          have hsec1 := fun wr (h : LI wr A n B xs) => second_b (c := c) (i := r + k) (q := k) h HO hn (by omega)
          have hsec0 := fun wr (h : LI wr A n B xs) => second_b (c := c) (i := r) (q := k) h HO hn (by omega)
          obtain ⟨J, hJ⟩ : ∃ J, J = r + 1 := ⟨_, rfl⟩
          obtain ⟨J1, hJ1⟩ : ∃ J1, J1 = r + k := ⟨_, rfl⟩
          rw [← hJ1] at hsec1 hs1 hst
          obtain ⟨x1, hx1⟩ : ∃ x, x = s2 xs J1 k := ⟨_, rfl⟩
          obtain ⟨x0, hx0⟩ : ∃ x, x = s2 xs r k := ⟨_, rfl⟩
          obtain ⟨S, hS⟩ : ∃ S, S = md0 xs k r k := ⟨_, rfl⟩
          obtain ⟨S1, hS1⟩ : ∃ S1, S1 = md0 xs k (r + 1) k := ⟨_, rfl⟩
          obtain ⟨y, hy⟩ : ∃ y, y = mdA xs k (r + 1) := ⟨_, rfl⟩
          obtain ⟨T, hT⟩ : ∃ T, T = sqs (mdA xs k) (r + 1) := ⟨_, rfl⟩
          rw [← hx1] at hsec1 hs1 hst
          rw [← hx0] at hsec0 hs0 hst
          rw [← hS] at hmb hst ⊢
          rw [← hS1] at hmb1 hst hab
          rw [← hy] at hab hse
          rw [← hT] at hse hG
          have HJ := Lib.hid hJ
          rw [← hJ] at hS1 hy hT hlt2 ⊢
          have t1 : IntKind.i64.wrap ((J : Int) + (k : Int)) = (J : Int) + (k : Int) := IntWalk.i64_in _ (by omega)
          have t2 : IntKind.i64.wrap ((J : Int) + (k : Int) - 1) = (J1 : Int) := by rw [IntWalk.i64_in _ (by omega)]; omega
          have t3 : IntKind.i64.wrap ((J : Int) - 1) = (r : Int) := by rw [IntWalk.i64_in _ (by omega)]; omega
          have t4 : IntKind.i64.wrap (x1 - x0) = x1 - x0 := IntWalk.i64_in _ (by omega)
          have t5 : IntKind.i64.wrap (S + (x1 - x0)) = S1 := by rw [IntWalk.i64_in _ (by omega)]; omega
          have HSE := Lib.hid hse
          have HS1 := Lib.hid hS1
          have HSEC1 := Lib.hid hsec1
          have HSEC0 := Lib.hid hsec0
          have hJ0 : (0 : Int) ≤ (J : Int) := Int.natCast_nonneg _
          have hJm : (J : Int) < (m : Int) := by omega
          have hyb : y ≤ 9223372036854775807 := by omega
          replace hX' := hX'.drew
          replace hb1 := hb1.drew
          replace hb2 := hb2.drew
          replace hG := hG.drew
          replace hF := hF.drew
          have hle : y * y + T ≤ 9223372036854775807 := by have h1 := Hsm.out; have h2 := Hs.out; have h3 := HSE.out; omega
          clear hX hse hst hs1 hs0 hmb hmb1 hsec1 hsec0 hx1 hx0 hS hS1 hy hT hJ hJ1
          go_wp2
          go_region_held3 (fun w' => w'.cell? ⟨g1, 0, none⟩ = some (.int .i64 (k : Int)) ∧ w'.cell? ⟨g2, 0, none⟩ = some (.slice A n c)) (exact ⟨hb1.cellIs rfl, hb2.cellIs rfl⟩) (first
            | (go_at_call 38; (with_reducible refine (HSEC1.out _ hX').mono ?_); rintro e y1 ⟨rfl, f1⟩; replace hX' := hX'.frm f1; replace hb1 := hb1.frm f1 (fun h => h); replace hb2 := hb2.frm f1 (fun h => h); replace hG := hG.frm f1 (fun h => h); replace hF := hF.trans f1 (fun _ _ h => h.elim); clear f1)
            | (go_at_call 38; (with_reducible refine (HSEC0.out _ hX').mono ?_); rintro e y1 ⟨rfl, f1⟩; replace hX' := hX'.frm f1; replace hb1 := hb1.frm f1 (fun h => h); replace hb2 := hb2.frm f1 (fun h => h); replace hG := hG.frm f1 (fun h => h); replace hF := hF.trans f1 (fun _ _ h => h.elim); clear f1))
          go_wp2_with (first
            | (go_at_call 37; (with_reducible refine (add_ok g T y S1 _ hab hG hle hyb).mono ?_); rintro e x2 ⟨rfl, hG2, f2⟩; replace hF := hF.trans f2 (fun _ _ h => h); clear f2))
          go_roundw
          case rel => exact ⟨J, by omega, by go_num, by rw [HS1.out], by rw [show J + 1 = r + 2 by have := HJ.out; omega, HSE.out]; exact hG2, hF⟩
          case measure => simp [intOf]; omega
        · have hrm : m = r + 1 := by omega
          have hX' := hX.frmg hF hBg
          have hb1 := h1.frm hF (Blk.ne h1 hg (by decide))
          have hb2 := h2.frm hF (Blk.ne h2 hg (by decide))
          have hb3 := h3.frm hF (Blk.ne h3 hg (by decide))
          have c1 : wr.cell? ⟨g1, 0, none⟩ = some (.int .i64 (k : Int)) := hb1.cellIs rfl
          have c2 : wr.cell? ⟨g2, 0, none⟩ = some (.slice A n c) := hb2.cellIs rfl
          have c3 : wr.cell? ⟨g3, 0, none⟩ = some (.int .i64 (m : Int)) := hb3.cellIs rfl
          obtain ⟨J, hJ⟩ : ∃ J, J = r + 1 := ⟨_, rfl⟩
          rw [← hJ] at hG hrm ⊢
          subst hrm
          clear hJ hX hr hlt2
          go_wp2
          refine bodyPost_end (v := .tuple #[]) (by simp [results, Try.results43]) rfl ?_
          exact ⟨rfl, hG, hF⟩

set_option maxHeartbeats 8000000 in
theorem mod1_bad (hX : LI w A n B xs) (HO : Hid (okl xs xs.length)) (hn : n ≤ 1024) (hq : 1 ≤ q) (hm : m + 3 * q = n + 1) (hm1 : 1 ≤ m) (hBg : B ≤ g) (hg : Blk w g 65 #[.int .i64 0])
    (h1 : Blk w g1 3 #[.int .i64 (q : Int)]) (h2 : Blk w g2 23 #[.slice A n c]) (h3 : Blk w g3 3 #[.int .i64 (m : Int)]) (hs : 9223372036854775807 < sqs (mdA xs q) m) :
    Calls Try.prog 43 #[.pointer (some ⟨g, 0, none⟩), .pointer (some ⟨g1, 0, none⟩), .pointer (some ⟨g2, 0, none⟩), .pointer (some ⟨g3, 0, none⟩)] w fun e w' =>
      e = .panicked ovr ∧ Frm w w' (· = g) := by
  have hF : Frm w w (· = g) := Frm.refl w _
  have k1 : w.cell? ⟨g1, 0, none⟩ = some (.int .i64 (q : Int)) := h1.cellIs rfl
  go_enter Try.func43, Try.ntmps43
  go_wp2
  go_loopw [5, 6, 9] (fun s _ i wr => ∃ k : Nat, k ≤ q ∧ i = .int .i64 k ∧ s = .int .i64 (md0 xs q 0 k) ∧ Blk wr g 65 #[.int .i64 0] ∧ Frm w wr (· = g)) (fun _ _ i _ => q - (intOf i).toNat)
  case atStart => exact ⟨0, Nat.zero_le _, rfl, rfl, hg, hF⟩
  case round =>
    clear hF
    obtain ⟨k, hk, rfl, rfl, hG, hF⟩ := hrel
    by_cases hlt : k < q
    · have hX' := hX.frmg hF hBg
      have hb1 := h1.frm hF (Blk.ne h1 hg (by decide))
      have hb2 := h2.frm hF (Blk.ne h2 hg (by decide))
      have hb3 := h3.frm hF (Blk.ne h3 hg (by decide))
      have c1 : wr.cell? ⟨g1, 0, none⟩ = some (.int .i64 (q : Int)) := hb1.cellIs rfl
      have c2 : wr.cell? ⟨g2, 0, none⟩ = some (.slice A n c) := hb2.cellIs rfl
      have c3 : wr.cell? ⟨g3, 0, none⟩ = some (.int .i64 (m : Int)) := hb3.cellIs rfl
      have hse : md0 xs q 0 (k + 1) = md0 xs q 0 k + s2 xs (0 + k) q := rfl
      rw [Nat.zero_add] at hse
      have hsb := s2_bounds HO.out (i := k) (q := q) (by rw [hX.HN]; omega)
      have hmb := md0_bounds HO.out (j := 0) (q := q) (by rw [hX.HN]; omega) k (by omega)
      have hq1024 : (k : Int) ≤ 1024 := by omega
      have hsec := fun wr (h : LI wr A n B xs) => second_b (c := c) (i := k) (q := q) h HO hn (by omega)
      obtain ⟨S, hS⟩ : ∃ S, S = md0 xs q 0 k := ⟨_, rfl⟩
      obtain ⟨x, hx⟩ : ∃ x, x = s2 xs k q := ⟨_, rfl⟩
      rw [← hx] at hsec hse hsb
      rw [← hS] at hse hmb ⊢
      have t1 : IntKind.i64.wrap (S + x) = S + x := IntWalk.i64_in _ (by omega)
      have HSE := Lib.hid hse
      have HSEC := Lib.hid hsec
      have hk0 : (0 : Int) ≤ (k : Int) := Int.natCast_nonneg _
      have hk1 : (k : Int) < (q : Int) := by omega
      clear hse hS hx hsec hX
      go_wp2_with (first
        | (go_at_call 38; (with_reducible refine (HSEC.out _ hX').mono ?_); rintro e x1 ⟨rfl, f1⟩; replace hG := hG.frm f1 (fun h => h); replace hF := hF.trans f1 (fun _ _ h => h.elim); clear f1))
      go_roundw
      case rel => exact ⟨k + 1, by omega, by go_num, by rw [HSE.out], hG, hF⟩
      case measure => simp [intOf]; omega
    · have hkm : k = q := by omega
      subst hkm
      have hab := md_abs xs k 0
      have hmb := md0_bounds HO.out (j := 0) (q := k) (by rw [hX.HN]; omega) k (Nat.le_refl _)
      have hse : sqs (mdA xs k) 1 = mdA xs k 0 * mdA xs k 0 + 0 := rfl
      obtain ⟨S, hS⟩ : ∃ S, S = md0 xs k 0 k := ⟨_, rfl⟩
      obtain ⟨y, hy⟩ : ∃ y, y = mdA xs k 0 := ⟨_, rfl⟩
      rw [← hS] at hab hmb ⊢
      rw [← hy] at hab hse
      have hyb : y ≤ 9223372036854775807 := by omega
      have HSE := Lib.hid hse
      have HS := Lib.hid hS
      clear hse hy hS
      have Hs := Lib.hid hs
      clear hs
      by_cases hle : y * y + 0 ≤ 9223372036854775807
      rotate_left
      · have hgt : 9223372036854775807 < y * y + 0 := by omega
        clear hle
        go_wp2_with (first
          | (go_at_call 37; (with_reducible refine (add_bad g 0 y S _ hab hG hgt hyb (by decide)).mono ?_); rintro e x2 ⟨rfl, f2⟩; replace hF := hF.trans f2 (fun _ _ h => h.elim); clear f2))
        exact ⟨rfl, rfl, hF⟩
      have HL0 : Hid (sqs (mdA xs k) 1 ≤ 9223372036854775807) := by unfold Hid; rw [HSE.out]; exact hle
      go_wp2_with (first
        | (go_at_call 37; (with_reducible refine (add_ok g 0 y S _ hab hG hle hyb).mono ?_); rintro e x2 ⟨rfl, hG2, f2⟩; replace hF := hF.trans f2 (fun _ _ h => h); clear f2))
      rw [← HSE.out] at hG2
      clear hG hab hmb hle hyb HSE
      go_loopw [5, 7] (fun s j wr => ∃ r : Nat, r + 1 ≤ m ∧ j = .int .i64 ((r + 1 : Nat) : Int) ∧ s = .int .i64 (md0 xs k r k) ∧ Blk wr g 65 #[.int .i64 (sqs (mdA xs k) (r + 1) : Nat)] ∧ Hid (sqs (mdA xs k) (r + 1) ≤ 9223372036854775807) ∧ Frm w wr (· = g)) (fun _ j _ => m - (intOf j).toNat)
      case atStart => exact ⟨0, hm1, rfl, by rw [HS.out], hG2, HL0, hF⟩
      case round =>
        clear hF hG2 HS HL0
        obtain ⟨r, hr, rfl, rfl, hG, HL, hF⟩ := hrel
        by_cases hlt2 : r + 1 < m
        · have hX' := hX.frmg hF hBg
          have hb1 := h1.frm hF (Blk.ne h1 hg (by decide))
          have hb2 := h2.frm hF (Blk.ne h2 hg (by decide))
          have hb3 := h3.frm hF (Blk.ne h3 hg (by decide))
          have c1 : wr.cell? ⟨g1, 0, none⟩ = some (.int .i64 (k : Int)) := hb1.cellIs rfl
          have c2 : wr.cell? ⟨g2, 0, none⟩ = some (.slice A n c) := hb2.cellIs rfl
          have c3 : wr.cell? ⟨g3, 0, none⟩ = some (.int .i64 (m : Int)) := hb3.cellIs rfl
          have hse : sqs (mdA xs k) (r + 2) = mdA xs k (r + 1) * mdA xs k (r + 1) + sqs (mdA xs k) (r + 1) := rfl
          have hst := md_step xs k r
          have hs1 := s2_bounds HO.out (i := r + k) (q := k) (by rw [hX.HN]; omega)
          have hs0 := s2_bounds HO.out (i := r) (q := k) (by rw [hX.HN]; omega)
          have hmb := md0_bounds HO.out (j := r) (q := k) (by rw [hX.HN]; omega) k (by omega)
          have hmb1 := md0_bounds HO.out (j := r + 1) (q := k) (by rw [hX.HN]; omega) k (by omega)
          have hab := md_abs xs k (r + 1)
          have hsec1 := fun wr (h : LI wr A n B xs) => second_b (c := c) (i := r + k) (q := k) h HO hn (by omega)
          have hsec0 := fun wr (h : LI wr A n B xs) => second_b (c := c) (i := r) (q := k) h HO hn (by omega)
          obtain ⟨J, hJ⟩ : ∃ J, J = r + 1 := ⟨_, rfl⟩
          obtain ⟨J1, hJ1⟩ : ∃ J1, J1 = r + k := ⟨_, rfl⟩
          rw [← hJ1] at hsec1 hs1 hst
          obtain ⟨x1, hx1⟩ : ∃ x, x = s2 xs J1 k := ⟨_, rfl⟩
          obtain ⟨x0, hx0⟩ : ∃ x, x = s2 xs r k := ⟨_, rfl⟩
          obtain ⟨S, hS⟩ : ∃ S, S = md0 xs k r k := ⟨_, rfl⟩
          obtain ⟨S1, hS1⟩ : ∃ S1, S1 = md0 xs k (r + 1) k := ⟨_, rfl⟩
          obtain ⟨y, hy⟩ : ∃ y, y = mdA xs k (r + 1) := ⟨_, rfl⟩
          obtain ⟨T, hT⟩ : ∃ T, T = sqs (mdA xs k) (r + 1) := ⟨_, rfl⟩
          rw [← hx1] at hsec1 hs1 hst
          rw [← hx0] at hsec0 hs0 hst
          rw [← hS] at hmb hst ⊢
          rw [← hS1] at hmb1 hst hab
          rw [← hy] at hab hse
          rw [← hT] at hse hG
          have HJ := Lib.hid hJ
          rw [← hJ] at hS1 hy hT hlt2 ⊢
          have t1 : IntKind.i64.wrap ((J : Int) + (k : Int)) = (J : Int) + (k : Int) := IntWalk.i64_in _ (by omega)
          have t2 : IntKind.i64.wrap ((J : Int) + (k : Int) - 1) = (J1 : Int) := by rw [IntWalk.i64_in _ (by omega)]; omega
          have t3 : IntKind.i64.wrap ((J : Int) - 1) = (r : Int) := by rw [IntWalk.i64_in _ (by omega)]; omega
          have t4 : IntKind.i64.wrap (x1 - x0) = x1 - x0 := IntWalk.i64_in _ (by omega)
          have t5 : IntKind.i64.wrap (S + (x1 - x0)) = S1 := by rw [IntWalk.i64_in _ (by omega)]; omega
          have HSE := Lib.hid hse
          have HS1 := Lib.hid hS1
          have HSEC1 := Lib.hid hsec1
          have HSEC0 := Lib.hid hsec0
          have hJ0 : (0 : Int) ≤ (J : Int) := Int.natCast_nonneg _
          have hJm : (J : Int) < (m : Int) := by omega
          have hyb : y ≤ 9223372036854775807 := by omega
          replace hX' := hX'.drew
          replace hb1 := hb1.drew
          replace hb2 := hb2.drew
          replace hG := hG.drew
          replace hF := hF.drew
          have hT2 : T ≤ 9223372036854775807 := by rw [hT, HJ.out]; exact HL.out
          by_cases hle : y * y + T ≤ 9223372036854775807
          · have HL2 : Hid (sqs (mdA xs k) (r + 2) ≤ 9223372036854775807) := by unfold Hid; rw [HSE.out]; exact hle
            clear hX hse hst hs1 hs0 hmb hmb1 hsec1 hsec0 hx1 hx0 hS hS1 hy hT hJ hJ1 HL
            go_wp2
            go_region_held3 (fun w' => w'.cell? ⟨g1, 0, none⟩ = some (.int .i64 (k : Int)) ∧ w'.cell? ⟨g2, 0, none⟩ = some (.slice A n c)) (exact ⟨hb1.cellIs rfl, hb2.cellIs rfl⟩) (first
              | (go_at_call 38; (with_reducible refine (HSEC1.out _ hX').mono ?_); rintro e y1 ⟨rfl, f1⟩; replace hX' := hX'.frm f1; replace hb1 := hb1.frm f1 (fun h => h); replace hb2 := hb2.frm f1 (fun h => h); replace hG := hG.frm f1 (fun h => h); replace hF := hF.trans f1 (fun _ _ h => h.elim); clear f1)
              | (go_at_call 38; (with_reducible refine (HSEC0.out _ hX').mono ?_); rintro e y1 ⟨rfl, f1⟩; replace hX' := hX'.frm f1; replace hb1 := hb1.frm f1 (fun h => h); replace hb2 := hb2.frm f1 (fun h => h); replace hG := hG.frm f1 (fun h => h); replace hF := hF.trans f1 (fun _ _ h => h.elim); clear f1))
            go_wp2_with (first
              | (go_at_call 37; (with_reducible refine (add_ok g T y S1 _ hab hG hle hyb).mono ?_); rintro e x2 ⟨rfl, hG2, f2⟩; replace hF := hF.trans f2 (fun _ _ h => h); clear f2))
            go_roundw
            case rel => exact ⟨J, by omega, by go_num, by rw [HS1.out], by rw [show J + 1 = r + 2 by have := HJ.out; omega, HSE.out]; exact hG2, by rw [show J + 1 = r + 2 by have := HJ.out; omega]; exact HL2, hF⟩
            case measure => simp [intOf]; omega
          · have hgt : 9223372036854775807 < y * y + T := by omega
            clear hX hse hst hs1 hs0 hmb hmb1 hsec1 hsec0 hx1 hx0 hS hS1 hy hT hJ hJ1 HL hle
            go_wp2
            go_region_held3 (fun w' => w'.cell? ⟨g1, 0, none⟩ = some (.int .i64 (k : Int)) ∧ w'.cell? ⟨g2, 0, none⟩ = some (.slice A n c)) (exact ⟨hb1.cellIs rfl, hb2.cellIs rfl⟩) (first
              | (go_at_call 38; (with_reducible refine (HSEC1.out _ hX').mono ?_); rintro e y1 ⟨rfl, f1⟩; replace hX' := hX'.frm f1; replace hb1 := hb1.frm f1 (fun h => h); replace hb2 := hb2.frm f1 (fun h => h); replace hG := hG.frm f1 (fun h => h); replace hF := hF.trans f1 (fun _ _ h => h.elim); clear f1)
              | (go_at_call 38; (with_reducible refine (HSEC0.out _ hX').mono ?_); rintro e y1 ⟨rfl, f1⟩; replace hX' := hX'.frm f1; replace hb1 := hb1.frm f1 (fun h => h); replace hb2 := hb2.frm f1 (fun h => h); replace hG := hG.frm f1 (fun h => h); replace hF := hF.trans f1 (fun _ _ h => h.elim); clear f1))
            go_wp2_with (first
              | (go_at_call 37; (with_reducible refine (add_bad g T y S1 _ hab hG hgt hyb hT2).mono ?_); rintro e x2 ⟨rfl, f2⟩; replace hF := hF.trans f2 (fun _ _ h => h.elim); clear f2))
            exact ⟨rfl, rfl, hF⟩
        · have hrm : m = r + 1 := by omega
          have h1 := HL.out
          have h2 := Hs.out
          rw [hrm] at h2
          exact absurd h1 (by omega)
end
end Go.Proofs.Ythpakpljfgmkfaa
