/- Detrend of the program. -/
import Derived.Test.YthpakpljfgmkfaaW12
namespace Go.Proofs.Ythpakpljfgmkfaa
open Go.RowKit

theorem fl_bound {a m : Int} (hm : 0 < m) {b : Int} (h1 : -b ≤ a) (h2 : a ≤ b) : -b - 1 ≤ a / m ∧ a / m ≤ b := by
  have h := Int.natAbs_tdiv_le_natAbs a m
  by_cases h0 : 0 ≤ a
  · have := (fl_pos h0 hm).1
    omega
  · rcases fl_neg (show a < 0 by omega) hm with ⟨_, e⟩ | ⟨_, e⟩ <;> omega
/-- Element i less the line through both ends. -/
def dtr (xs : List Int) (i : Nat) : Int := xs.getD i 0 - xs.getD 0 0 - (xs.getD (xs.length - 1) 0 - xs.getD 0 0) * (i : Int) / ((xs.length - 1 : Nat) : Int)
/-- The list after k rounds. -/
def dtL (xs : List Int) (k : Nat) : List Int := (List.range xs.length).map fun j => if j < k then dtr xs j else 0
def dtV (xs : List Int) : List Int := (List.range xs.length).map (dtr xs)
theorem dtL_len (xs : List Int) (k : Nat) : (dtL xs k).length = xs.length := by simp [dtL]
theorem dtV_len (xs : List Int) : (dtV xs).length = xs.length := by simp [dtV]
theorem dtL_zero (xs : List Int) : dtL xs 0 = List.replicate xs.length 0 := by
  apply List.ext_getElem
  · simp [dtL]
  · intro j h1 h2; simp [dtL]
theorem dtL_all (xs : List Int) : dtL xs xs.length = dtV xs := by
  apply List.ext_getElem
  · simp [dtL, dtV]
  · intro j h1 h2
    have hj : j < xs.length := by simpa [dtL] using h1
    simp [dtL, dtV, hj]
theorem dtL_set (xs : List Int) (k : Nat) : (dtL xs k).set k (dtr xs k) = dtL xs (k + 1) := by
  apply List.ext_getElem
  · simp [dtL]
  · intro j h1 h2
    by_cases e : k = j
    · subst e; simp [dtL]
    · rw [List.getElem_set_ne e]
      simp only [dtL, List.getElem_map, List.getElem_range]
      by_cases h : j < k
      · rw [if_pos h, if_pos (by omega)]
      · rw [if_neg h, if_neg (by omega)]

section
variable (A : Option Addr) (n c B : Nat) (xs : List Int) (w : World)
set_option maxHeartbeats 4000000 in
theorem detrend_chk (hX : LI w A n B xs) (e0 : Int) (HE : Hid (chk xs = e0)) (h0 : e0 ≠ 0) :
    Calls Try.prog 20 #[.slice A n c] w fun e w' => e = .returned (.tuple #[.slice none 0 0, .int .i64 e0]) ∧ Frm w w' NoB := by
  have hb : (e0 != 0) = true := by rw [bne_iff_ne]; exact h0
  clear h0
  go_enter Try.func20, Try.ntmps20
  go_wp2_with (first | (go_at_call 23; (with_reducible refine (check_b HE hX).mono ?_); rintro e x1 ⟨rfl, f1⟩))
  go_ret2
  exact ⟨rfl, f1⟩
set_option maxHeartbeats 4000000 in
theorem detrend_short (hX : LI w A n B xs) (HE : Hid (chk xs = 0)) (hn : n < 2) :
    Calls Try.prog 20 #[.slice A n c] w fun e w' => e = .returned (.tuple #[.slice none 0 0, .int .i64 14]) ∧ Frm w w' NoB := by
  have g1 : decide ((n : Int) < 2) = true := decide_eq_true (by omega)
  have g2 : (n : Int) < 2 := by omega
  go_enter Try.func20, Try.ntmps20
  go_wp2_with (first | (go_at_call 23; (with_reducible refine (check_b HE hX).mono ?_); rintro e x1 ⟨rfl, f1⟩))
  go_ret2
  exact ⟨rfl, f1⟩
set_option maxHeartbeats 8000000 in
theorem detrend_ok (hX : LI w A n B xs) (HE : Hid (chk xs = 0)) (hn : 2 ≤ n) :
    Calls Try.prog 20 #[.slice A n c] w fun e w' => ∃ g, e = .returned (.tuple #[.slice (some ⟨g, 0, none⟩) n n, .int .i64 0]) ∧ w.heap.size ≤ g ∧ Blk w' g 3 (cel (dtV xs)) ∧ Frm w w' NoB := by
  have hck := chk_zero HE.out
  have hn1 := hck.1
  rw [hX.HN] at hn1
  have HO : Hid (okl xs xs.length) := hck.2
  have HX := Lib.hid hX.HN
  clear hck
  have hmk := make_ints n (by omega)
  obtain ⟨m, hm⟩ : ∃ m, m = n - 1 := ⟨_, rfl⟩
  have g1 : decide ((n : Int) < 2) = false := decide_eq_false (by omega)
  have g1' : decide (n < 2) = false := decide_eq_false (by omega)
  have t0 : IntKind.i64.wrap ((n : Int) - 1) = (m : Int) := by rw [IntWalk.i64_in _ (by omega)]; omega
  have hF := Frm.refl w NoB
  have HM := Lib.hid hm
  clear hm
  go_enter Try.func20, Try.ntmps20
  go_wp2_with (first | (go_at_call 23; (with_reducible refine (check_b HE hX).mono ?_); rintro e x1 ⟨rfl, f1⟩))
  have hF1 := (hF.trans f1 (fun _ _ h => h)).alloc (.cells (cel (List.replicate n 0)) 3)
  have hB1 : Blk (x1.alloc (.cells (cel (List.replicate n 0)) 3)) x1.heap.size 3 (cel (dtL xs 0)) := by rw [dtL_zero, HX.out]; exact Blk.new _ _ _
  have hg : w.heap.size ≤ x1.heap.size := f1.size
  go_loopw [7, 8, 25] (fun _ _ i wr => ∃ k : Nat, k ≤ n ∧ i = .int .i64 k ∧ Blk wr x1.heap.size 3 (cel (dtL xs k)) ∧ Frm w wr NoB) (fun _ _ i _ => n - (intOf i).toNat)
  case atStart => exact ⟨0, Nat.zero_le _, rfl, hB1, hF1⟩
  case round =>
    clear hF hF1 hB1 f1
    obtain ⟨k, hk, rfl, hB, hF⟩ := hrel
    by_cases hlt : k < n
    · have hm := HM.out
      obtain ⟨b, o, rfl, hb, hcell⟩ := (hX.frm hF).hA.pos (by rw [HX.out]; omega)
      have hbg : b ≠ x1.heap.size := by have := hX.hB; omega
      have q0 := hcell 0 (by rw [HX.out]; omega)
      have qm := hcell m (by rw [HX.out]; omega)
      have qk := hcell k (by rw [HX.out]; omega)
      rw [Nat.add_zero] at q0
      have o0 := HO.out 0 (by rw [HX.out]; omega)
      have om := HO.out m (by rw [HX.out]; omega)
      have ok := HO.out k (by rw [HX.out]; omega)
      have hd : dtr xs k = xs.getD k 0 - xs.getD 0 0 - (xs.getD (xs.length - 1) 0 - xs.getD 0 0) * (k : Int) / ((xs.length - 1 : Nat) : Int) := rfl
      rw [HX.out, ← hm] at hd
      obtain ⟨x, hx⟩ : ∃ x, x = xs.getD k 0 := ⟨_, rfl⟩
      obtain ⟨x0, hx0⟩ : ∃ x, x = xs.getD 0 0 := ⟨_, rfl⟩
      obtain ⟨xm, hxm⟩ : ∃ x, x = xs.getD m 0 := ⟨_, rfl⟩
      rw [← hx] at qk ok hd
      rw [← hx0] at q0 o0 hd
      rw [← hxm] at qm om hd
      have hPb : -2251799813685248 ≤ (xm - x0) * (k : Int) ∧ (xm - x0) * (k : Int) ≤ 2251799813685248 := by
        have h1 : ((xm - x0) * (k : Int)).natAbs = (xm - x0).natAbs * k := by rw [Int.natAbs_mul, Int.natAbs_natCast]
        have h2 : (xm - x0).natAbs * k ≤ 2199023255552 * 1024 := Nat.mul_le_mul (by omega) (by omega)
        omega
      have hFb := fl_bound (show (0 : Int) < (m : Int) by omega) hPb.1 hPb.2
      obtain ⟨P, hP⟩ : ∃ P, P = (xm - x0) * (k : Int) := ⟨_, rfl⟩
      rw [← hP] at hPb hFb hd
      obtain ⟨F, hFl⟩ : ∃ F, F = P / (m : Int) := ⟨_, rfl⟩
      have hfl := fun w => floor_t P (m : Int) w (by omega) (by omega)
      rw [← hFl] at hFb hd hfl
      have t1 : IntKind.i64.wrap (x - x0) = x - x0 := IntWalk.i64_in _ (by omega)
      have t2 : IntKind.i64.wrap (xm - x0) = xm - x0 := IntWalk.i64_in _ (by omega)
      have t3 : IntKind.i64.wrap ((xm - x0) * (k : Int)) = P := by rw [← hP]; exact IntWalk.i64_in _ (by omega)
      have t4 : IntKind.i64.wrap (x - x0 - F) = x - x0 - F := IntWalk.i64_in _ (by omega)
      have hk0 : (0 : Int) ≤ (k : Int) := Int.natCast_nonneg _
      have hk1 : (k : Int) < (n : Int) := by omega
      have hm0 : (0 : Int) ≤ (m : Int) := Int.natCast_nonneg _
      have hm1 : (m : Int) < (n : Int) := by omega
      have hn0 : (0 : Int) < (n : Int) := by omega
      have hn0b : 0 < n := by omega
      have hset : (dtL xs k).set k (x - x0 - F) = dtL xs (k + 1) := by rw [← hd]; exact dtL_set xs k
      have hB2 : Blk (wr.setCell ⟨x1.heap.size, k, none⟩ (.int .i64 (x - x0 - F))).drew x1.heap.size 3 (cel (dtL xs (k + 1))) := by
        have h := hB.put k (.int .i64 (x - x0 - F))
        rw [cel_set, hset] at h
        exact h
      have hF2 := (hF.put (b := x1.heap.size) (fun h => absurd h (by omega)) k (.int .i64 (x - x0 - F))).drew
      have zf := hB.frozen k
      have cf : ∃ v, wr.cell? ⟨x1.heap.size, k, none⟩ = some v := ⟨_, hB.cellIs (cel_get _ k (by rw [dtL_len, HX.out]; exact hlt))⟩
      obtain ⟨vf, cf⟩ := cf
      have HFL := Lib.hid hfl
      clear hcell o0 om ok hd hx hx0 hxm hPb hFb hP hFl hfl hset hB hm
      go_wp2
      go_region_held3 (fun w' => w'.cell? ⟨b, o, none⟩ = some (.int .i64 x0) ∧ w'.cell? ⟨b, o + m, none⟩ = some (.int .i64 xm))
        (first
          | exact ⟨q0, qm⟩
          | exact ⟨(World.cell?_setCell_far _ _ _ _ (fun e => hbg e.symm)).trans q0, (World.cell?_setCell_far _ _ _ _ (fun e => hbg e.symm)).trans qm⟩)
        (first
          | (go_at_call 34; (with_reducible refine (HFL.out _).mono ?_); rintro e y ⟨rfl, rfl⟩))
      all_goals
        go_wp2
        go_roundw
        case rel => exact ⟨k + 1, by omega, by go_num, hB2, hF2⟩
        case measure => simp [intOf]; omega
    · have hkn : k = n := by omega
      rw [hkn, ← HX.out, dtL_all] at hB
      clear hkn
      go_wp2
      go_ret2
      exact ⟨_, rfl, hg, hB, hF⟩
end
end Go.Proofs.Ythpakpljfgmkfaa
