/- Decimate of the program. -/
import Derived.Test.YthpakpljfgmkfaaW29
namespace Go.Proofs.Ythpakpljfgmkfaa
open Go.RowKit

/-- How many of the first k numbers are multiples of q. -/
def dN (q k : Nat) : Nat := (k + q - 1) / q
/-- Every q-th of the first k elements. -/
def dL (xs : List Int) (q k : Nat) : List Int := (List.range (dN q k)).map fun j => xs.getD (j * q) 0
theorem dN_zero {q : Nat} (hq : 0 < q) : dN q 0 = 0 := Nat.div_eq_of_lt (by omega)
theorem dN_hit {q k : Nat} (hq : 0 < q) (h : k % q = 0) : dN q (k + 1) = dN q k + 1 ∧ dN q k * q = k := by
  obtain ⟨t, ht⟩ := Nat.dvd_of_mod_eq_zero h
  have e1 : dN q (k + 1) = t + 1 := by
    unfold dN
    rw [ht, show q * t + 1 + q - 1 = q * (t + 1) by rw [Nat.mul_add]; omega, Nat.mul_div_cancel_left _ hq]
  have e2 : dN q k = t := by
    unfold dN
    rw [ht, show q * t + q - 1 = q - 1 + q * t by omega, Nat.add_mul_div_left _ _ hq, Nat.div_eq_of_lt (by omega), Nat.zero_add]
  rw [e1, e2, Nat.mul_comm, ht]
  exact ⟨rfl, rfl⟩
theorem dN_miss {q k : Nat} (hq : 0 < q) (h : k % q ≠ 0) : dN q (k + 1) = dN q k := by
  have hd := Nat.div_add_mod k q
  have hlt := Nat.mod_lt k hq
  obtain ⟨t, ht⟩ : ∃ t, t = k / q := ⟨_, rfl⟩
  obtain ⟨r, hr⟩ : ∃ r, r = k % q := ⟨_, rfl⟩
  rw [← ht, ← hr] at hd
  rw [← hr] at h hlt
  have e1 : dN q (k + 1) = t + 1 := by
    unfold dN
    rw [← hd, show q * t + r + 1 + q - 1 = r + q * (t + 1) by rw [Nat.mul_add]; omega, Nat.add_mul_div_left _ _ hq, Nat.div_eq_of_lt hlt, Nat.zero_add]
  have e2 : dN q k = t + 1 := by
    unfold dN
    rw [← hd, show q * t + r + q - 1 = r - 1 + q * (t + 1) by rw [Nat.mul_add]; omega, Nat.add_mul_div_left _ _ hq, Nat.div_eq_of_lt (by omega), Nat.zero_add]
  rw [e1, e2]
theorem dN_le {q : Nat} (hq : 0 < q) : ∀ k, dN q k ≤ k
  | 0 => by rw [dN_zero hq]; exact Nat.le_refl _
  | k + 1 => by
    have ih := dN_le hq k
    by_cases h : k % q = 0
    · rw [(dN_hit hq h).1]; omega
    · rw [dN_miss hq h]; omega
theorem dL_len (xs : List Int) (q k : Nat) : (dL xs q k).length = dN q k := by simp [dL]
theorem dL_zero (xs : List Int) {q : Nat} (hq : 0 < q) : dL xs q 0 = [] := by unfold dL; rw [dN_zero hq]; rfl
theorem dL_hit (xs : List Int) {q k : Nat} (hq : 0 < q) (h : k % q = 0) : dL xs q (k + 1) = dL xs q k ++ [xs.getD k 0] := by
  obtain ⟨e1, e2⟩ := dN_hit hq h
  unfold dL
  rw [e1, List.range_succ, List.map_append, List.map_cons, e2]
  rfl
theorem dL_miss (xs : List Int) {q k : Nat} (hq : 0 < q) (h : k % q ≠ 0) : dL xs q (k + 1) = dL xs q k := by
  unfold dL
  rw [dN_miss hq h]
theorem dL_get (xs : List Int) (q k j : Nat) (h : j < dN q k) : (dL xs q k).getD j 0 = xs.getD (j * q) 0 := by simp [dL, List.getD, List.getElem?_range h]
section
variable (A : Option Addr) (n c B : Nat) (xs : List Int) (w : World)
set_option maxHeartbeats 4000000 in
theorem decimate_chk (d : Int) (hX : LI w A n B xs) (e0 : Int) (HE : Hid (chk xs = e0)) (h0 : e0 ≠ 0) :
    Calls Try.prog 18 #[.slice A n c, .int .i64 d] w fun e w' => e = .returned (.tuple #[.slice none 0 0, .int .i64 e0]) ∧ Frm w w' NoB := by
  have hb : (e0 != 0) = true := by rw [bne_iff_ne]; exact h0
  clear h0
  go_enter Try.func18, Try.ntmps18
  go_wp2_with (first | (go_at_call 23; (with_reducible refine (check_b HE hX).mono ?_); rintro e x1 ⟨rfl, f1⟩))
  go_ret2
  exact ⟨rfl, f1⟩
set_option maxHeartbeats 4000000 in
theorem decimate_rng (d : Int) (hX : LI w A n B xs) (HE : Hid (chk xs = 0)) (hd : d < 1) :
    Calls Try.prog 18 #[.slice A n c, .int .i64 d] w fun e w' => e = .returned (.tuple #[.slice none 0 0, .int .i64 3]) ∧ Frm w w' NoB := by
  have g1 : decide (d < 1) = true := decide_eq_true hd
  go_enter Try.func18, Try.ntmps18
  go_wp2_with (first | (go_at_call 23; (with_reducible refine (check_b HE hX).mono ?_); rintro e x1 ⟨rfl, f1⟩))
  go_ret2
  exact ⟨rfl, f1⟩
set_option maxHeartbeats 8000000 in
theorem decimate_ok (q : Nat) (hX : LI w A n B xs) (HE : Hid (chk xs = 0)) (hq : 0 < q) (hq2 : q ≤ 9223372036854775807) :
    Calls Try.prog 18 #[.slice A n c, .int .i64 (q : Int)] w fun e w' => ∃ v, e = .returned (.tuple #[v, .int .i64 0]) ∧ OwnI w' w.heap.size v (dN q n) (dL xs q n) ∧ Frm w w' NoB := by
  have hn1 := (chk_zero HE.out).1
  rw [hX.HN] at hn1
  have HN := Lib.hid hX.HN
  have g1 : decide ((q : Int) < 1) = false := decide_eq_false (by omega)
  have hne : (q : Int) ≠ 0 := by omega
  have hne2 : ¬ q = 0 := by omega
  have hF : Frm w w NoB := Frm.refl w _
  obtain ⟨i0, hi, hz0, hz1, hz2⟩ := info_parts int_info
  go_enter Try.func18, Try.ntmps18
  go_wp2_with (first | (go_at_call 23; (with_reducible refine (check_b HE hX).mono ?_); rintro e x1 ⟨rfl, f1⟩; replace hF := hF.trans f1 (fun _ _ h => h); clear f1))
  have hsz0 := hF.size
  go_loopw [7, 8, 9, 19] (fun v _ _ i wr => ∃ k : Nat, k ≤ n ∧ i = .int .i64 k ∧ OwnI wr w.heap.size v (dN q k) (dL xs q k) ∧ Frm w wr NoB) (fun _ _ _ i _ => n - (intOf i).toNat)
  case atStart => exact ⟨0, Nat.zero_le _, rfl, by rw [dN_zero hq, dL_zero xs hq]; exact World.ownsRow_nil _ _ _ _, hF⟩
  case round =>
    clear hF
    obtain ⟨k, hk, rfl, hown, hF⟩ := hrel
    by_cases hlt : k < n
    · obtain ⟨b, o, rfl, _, hcell⟩ := (hX.frm hF).hA.pos (by rw [HN.out]; omega)
      have qk := hcell k (by rw [HN.out]; omega)
      have hdn := dN_le hq k
      have hsz := hF.size
      have hk0 : (0 : Int) ≤ (k : Int) := Int.natCast_nonneg _
      have hk1 : (k : Int) < (n : Int) := by omega
      obtain ⟨x, hx⟩ : ∃ x, x = xs.getD k 0 := ⟨_, rfl⟩
      rw [← hx] at qk
      obtain ⟨r, hr⟩ : ∃ r, r = k % q := ⟨_, rfl⟩
      have t1 : ((k : Int)).tmod (q : Int) = (r : Int) := by rw [hr]; rfl
      have hrb : r ≤ k := by rw [hr]; exact Nat.mod_le _ _
      have t2 : IntKind.i64.wrap (r : Int) = (r : Int) := IntWalk.i64_in _ (by omega)
      by_cases h0 : r = 0
      · have hk2 : k % q = 0 := by rw [← hr]; exact h0
        have hsu := dL_hit xs hq hk2
        have hnu := (dN_hit hq hk2).1
        rw [← hx] at hsu
        have HS := Lib.hid hsu
        have HNU := Lib.hid hnu
        obtain ⟨K, hK⟩ : ∃ K, K = dN q k := ⟨_, rfl⟩
        rw [← hK] at hown hdn
        have HK := Lib.hid hK
        subst h0
        clear hcell hx hr hsu hnu hk2 hK hrb hX
        go_wp2_with (first
          | (at_builtin; refine wpList_append_own _ rfl _ _ 23 rfl w.heap.size 3 i0 (.int .i64 0) 1 8 Try.underlying23 hi hz0 hz1 hz2 rfl (by decide) _ _ _ rfl (hown.alloc _) ⟨wr.heap.size, 0, none⟩ 1 1 [.int .i64 x] rfl rfl ?c1 ?c2 ?c3 ?c4 ?c5 ?_)
          | go_in)
        case c1 => intro j u hj; match j, hj with | 0, hj => (simp at hj; subst hj; simp [Addr.add])
        case c2 => intro u hu; simp at hu; subst hu; rfl
        case c3 => unfold maxLen; omega
        case c4 => omega
        case c5 => simp; omega
        intro v' w1 hown' hgrow _
        have hown3 : OwnI w1 w.heap.size v' (dN q (k + 1)) (dL xs q (k + 1)) := by rw [HS.out, HNU.out, ← HK.out]; simpa [OwnI] using hown'
        have hF3 := (hF.alloc (.cells #[.int .i64 x] 3)).grown hgrow (fun j hj hlt => absurd (hown.lt j hj).1 (by omega))
        clear hown' hgrow hown hF
        go_wp2
        go_roundw
        case rel => exact ⟨k + 1, by omega, by go_num, hown3, hF3⟩
        case measure => simp [intOf]; omega
      · have hk2 : k % q ≠ 0 := by rw [← hr]; exact h0
        have hb : ((r : Int) == 0) = false := beq_eq_false_iff_ne.2 (by omega)
        have hsu := dL_miss xs hq hk2
        have hnu := dN_miss hq hk2
        rw [← hsu, ← hnu] at hown
        clear hcell hx hr hsu hnu hk2 hrb hX
        go_wp2
        go_roundw
        case rel => exact ⟨k + 1, by omega, by go_num, hown, hF⟩
        case measure => simp [intOf]; omega
    · have hkn : k = n := by omega
      rw [hkn] at hown
      clear hkn hX
      go_wp2
      go_ret2
      exact ⟨_, rfl, hown, hF⟩
end
end Go.Proofs.Ythpakpljfgmkfaa
