/- Decimate of the reference; Decimate, all results. -/
import Derived.Test.YthpakpljfgmkfaaW42
namespace Go.Proofs.Ythpakpljfgmkfaa
open Go.RowKit

section
variable (A : Option Addr) (n c B : Nat) (xs : List Int) (w : World)
set_option maxHeartbeats 4000000 in
theorem rdecimate_chk (d : Int) (hX : LI w A n B xs) (e0 : Int) (HE : Hid (chk xs = e0)) (h0 : e0 ≠ 0) :
    Calls Try.prog 30 #[.slice A n c, .int .i64 d] w fun e w' => e = .returned (.tuple #[.slice none 0 0, .int .i64 e0]) ∧ Frm w w' NoB := by
  have hb : (e0 != 0) = true := by rw [bne_iff_ne]; exact h0
  clear h0
  go_enter Try.func30, Try.ntmps30
  go_wp2_with (first | (go_at_call 24; (with_reducible refine (rcheck_b HE hX).mono ?_); rintro e x1 ⟨rfl, f1⟩))
  go_ret2
  exact ⟨rfl, f1⟩
set_option maxHeartbeats 4000000 in
theorem rdecimate_rng (d : Int) (hX : LI w A n B xs) (HE : Hid (chk xs = 0)) (hd : d < 1) :
    Calls Try.prog 30 #[.slice A n c, .int .i64 d] w fun e w' => e = .returned (.tuple #[.slice none 0 0, .int .i64 3]) ∧ Frm w w' NoB := by
  have g1 : decide (d < 1) = true := decide_eq_true hd
  go_enter Try.func30, Try.ntmps30
  go_wp2_with (first | (go_at_call 24; (with_reducible refine (rcheck_b HE hX).mono ?_); rintro e x1 ⟨rfl, f1⟩))
  go_ret2
  exact ⟨rfl, f1⟩
set_option maxHeartbeats 8000000 in
theorem rdecimate_ok (q : Nat) (hX : LI w A n B xs) (HE : Hid (chk xs = 0)) (hq : 0 < q) (hq2 : q ≤ 9223372036854775807) :
    Calls Try.prog 30 #[.slice A n c, .int .i64 (q : Int)] w fun e w' => ∃ v, e = .returned (.tuple #[v, .int .i64 0]) ∧ OwnI w' w.heap.size v (dN q n) (dL xs q n) ∧ Frm w w' NoB := by
  have hn1 := (chk_zero HE.out).1
  rw [hX.HN] at hn1
  have HN := Lib.hid hX.HN
  have g1 : decide ((q : Int) < 1) = false := decide_eq_false (by omega)
  have hne : (q : Int) ≠ 0 := by omega
  have hne2 : ¬ q = 0 := by omega
  have hF : Frm w w NoB := Frm.refl w _
  obtain ⟨i0, hi, hz0, hz1, hz2⟩ := info_parts int_info
  go_enter Try.func30, Try.ntmps30
  go_wp2_with (first | (go_at_call 24; (with_reducible refine (rcheck_b HE hX).mono ?_); rintro e x1 ⟨rfl, f1⟩; replace hF := hF.trans f1 (fun _ _ h => h); clear f1))
  have hsz0 := hF.size
  go_loopw [7, 8] (fun v i wr => ∃ k : Nat, k ≤ n ∧ i = .int .i64 k ∧ OwnI wr w.heap.size v (dN q k) (dL xs q k) ∧ Frm w wr NoB) (fun _ i _ => n - (intOf i).toNat)
  case atStart => exact ⟨0, Nat.zero_le _, rfl, by rw [dN_zero hq, dL_zero xs hq]; exact World.ownsRow_nil _ _ _ _, hF⟩
  case round =>
    clear hF
    obtain ⟨k, hk, rfl, hown, hF⟩ := hrel
    by_cases hlt : k < n
    · obtain ⟨b, o, rfl, _, hcell⟩ := (hX.frm hF).hA.pos (by rw [HN.out]; omega)
      have qk := hcell k (by rw [HN.out]; omega)
      have hdn := dN_le hq k
      have hsz := hF.size
      have hk0 : (0 : Int) ≤ (k : Int) := Int.natCast_nonneg _
      have hk1 : (k : Int) < (n : Int) := by omega
      obtain ⟨x, hx⟩ : ∃ x, x = xs.getD k 0 := ⟨_, rfl⟩
      rw [← hx] at qk
      obtain ⟨r, hr⟩ : ∃ r, r = k % q := ⟨_, rfl⟩
      have t1 : ((k : Int)).tmod (q : Int) = (r : Int) := by rw [hr]; rfl
      have hrb : r ≤ k := by rw [hr]; exact Nat.mod_le _ _
      have t2 : IntKind.i64.wrap (r : Int) = (r : Int) := IntWalk.i64_in _ (by omega)
      by_cases h0 : r = 0
      · have hk2 : k % q = 0 := by rw [← hr]; exact h0
        have hsu := dL_hit xs hq hk2
        have hnu := (dN_hit hq hk2).1
        rw [← hx] at hsu
        have HS := Lib.hid hsu
        have HNU := Lib.hid hnu
        obtain ⟨K, hK⟩ : ∃ K, K = dN q k := ⟨_, rfl⟩
        rw [← hK] at hown hdn
        have HK := Lib.hid hK
        subst h0
        clear hcell hx hr hsu hnu hk2 hK hrb hX
        go_wp2_with (first
          | (at_builtin; refine wpList_append_own _ rfl _ _ 23 rfl w.heap.size 3 i0 (.int .i64 0) 1 8 Try.underlying23 hi hz0 hz1 hz2 rfl (by decide) _ _ _ rfl (hown.alloc _) ⟨wr.heap.size, 0, none⟩ 1 1 [.int .i64 x] rfl rfl ?c1 ?c2 ?c3 ?c4 ?c5 ?_)
          | go_in)
        case c1 => intro j u hj; match j, hj with | 0, hj => (simp at hj; subst hj; simp [Addr.add])
        case c2 => intro u hu; simp at hu; subst hu; rfl
        case c3 => unfold maxLen; omega
        case c4 => omega
        case c5 => simp; omega
        intro v' w1 hown' hgrow _
        have hown3 : OwnI w1 w.heap.size v' (dN q (k + 1)) (dL xs q (k + 1)) := by rw [HS.out, HNU.out, ← HK.out]; simpa [OwnI] using hown'
        have hF3 := (hF.alloc (.cells #[.int .i64 x] 3)).grown hgrow (fun j hj hlt => absurd (hown.lt j hj).1 (by omega))
        clear hown' hgrow hown hF
        go_wp2
        go_roundw
        case rel => exact ⟨k + 1, by omega, by go_num, hown3, hF3⟩
        case measure => simp [intOf]; omega
      · have hk2 : k % q ≠ 0 := by rw [← hr]; exact h0
        have hb : ((r : Int) == 0) = false := beq_eq_false_iff_ne.2 (by omega)
        have hsu := dL_miss xs hq hk2
        have hnu := dN_miss hq hk2
        rw [← hsu, ← hnu] at hown
        clear hcell hx hr hsu hnu hk2 hrb hX
        go_wp2
        go_roundw
        case rel => exact ⟨k + 1, by omega, by go_num, hown, hF⟩
        case measure => simp [intOf]; omega
    · have hkn : k = n := by omega
      rw [hkn] at hown
      clear hkn hX
      go_wp2
      go_ret2
      exact ⟨_, rfl, hown, hF⟩
end
/-- Decimate's error and list. -/
noncomputable def dcE (xs : List Int) (d : Int) : Int := if chk xs ≠ 0 then chk xs else if d < 1 then 3 else 0
noncomputable def dcR (xs : List Int) (d : Int) : List Int := if dcE xs d = 0 then dL xs d.toNat xs.length else []
section
variable {A : Option Addr} {n c B K : Nat} {xs ys : List Int} {d e0 : Int} {w : World}
theorem dec_s (HE : Hid (dcE xs d = e0)) (HV : Hid (dcR xs d = ys)) (HK : Hid (ys.length = K)) (hd : d ≤ 9223372036854775807) (hX : LI w A n B xs) :
    Calls Try.prog 18 #[.slice A n c, .int .i64 d] w fun e w' => ∃ A' c', e = .returned (.tuple #[.slice A' K c', .int .i64 e0]) ∧ LI w' A' K w'.heap.size ys ∧ Frm w w' NoB := by
  rw [← HK.out, ← HE.out, ← HV.out]
  by_cases h0 : chk xs = 0
  · by_cases h1 : d < 1
    · have he : dcE xs d = 3 := by unfold dcE; rw [if_neg (not_not_intro h0), if_pos h1]
      have hv : dcR xs d = [] := by unfold dcR; rw [he, if_neg (by decide)]
      rw [he, hv]
      refine (decimate_rng A n c B xs w d hX h0 h1).mono ?_
      rintro e w' ⟨rfl, f⟩
      exact ⟨none, 0, rfl, LI.nil w', f⟩
    · obtain ⟨q, rfl⟩ : ∃ q : Nat, d = (q : Int) := ⟨d.toNat, by omega⟩
      have he : dcE xs (q : Int) = 0 := by unfold dcE; rw [if_neg (not_not_intro h0), if_neg h1]
      have hv : dcR xs (q : Int) = dL xs q n := by unfold dcR; rw [he, if_pos rfl, Int.toNat_natCast, hX.HN]
      rw [he, hv, dL_len]
      refine (decimate_ok A n c B xs w q hX h0 (by omega) (by omega)).mono ?_
      rintro e w' ⟨v, rfl, hown, hf⟩
      have h1 := (chk_zero h0).1
      have h2 := dN_le (show 0 < q by omega) n
      have h3 := hX.HN
      obtain ⟨A', c', rfl, _, hl⟩ := hown.li (by omega)
      exact ⟨_, _, rfl, hl, hf⟩
  · have he : dcE xs d = chk xs := by unfold dcE; rw [if_pos h0]
    have hv : dcR xs d = [] := by unfold dcR; rw [he, if_neg h0]
    rw [he, hv]
    refine (decimate_chk A n c B xs w d hX (chk xs) rfl h0).mono ?_
    rintro e w' ⟨rfl, f⟩
    exact ⟨none, 0, rfl, LI.nil w', f⟩
theorem rdec_s (HE : Hid (dcE xs d = e0)) (HV : Hid (dcR xs d = ys)) (HK : Hid (ys.length = K)) (hd : d ≤ 9223372036854775807) (hX : LI w A n B xs) :
    Calls Try.prog 30 #[.slice A n c, .int .i64 d] w fun e w' => ∃ A' c', e = .returned (.tuple #[.slice A' K c', .int .i64 e0]) ∧ LI w' A' K w'.heap.size ys ∧ Frm w w' NoB := by
  rw [← HK.out, ← HE.out, ← HV.out]
  by_cases h0 : chk xs = 0
  · by_cases h1 : d < 1
    · have he : dcE xs d = 3 := by unfold dcE; rw [if_neg (not_not_intro h0), if_pos h1]
      have hv : dcR xs d = [] := by unfold dcR; rw [he, if_neg (by decide)]
      rw [he, hv]
      refine (rdecimate_rng A n c B xs w d hX h0 h1).mono ?_
      rintro e w' ⟨rfl, f⟩
      exact ⟨none, 0, rfl, LI.nil w', f⟩
    · obtain ⟨q, rfl⟩ : ∃ q : Nat, d = (q : Int) := ⟨d.toNat, by omega⟩
      have he : dcE xs (q : Int) = 0 := by unfold dcE; rw [if_neg (not_not_intro h0), if_neg h1]
      have hv : dcR xs (q : Int) = dL xs q n := by unfold dcR; rw [he, if_pos rfl, Int.toNat_natCast, hX.HN]
      rw [he, hv, dL_len]
      refine (rdecimate_ok A n c B xs w q hX h0 (by omega) (by omega)).mono ?_
      rintro e w' ⟨v, rfl, hown, hf⟩
      have h1 := (chk_zero h0).1
      have h2 := dN_le (show 0 < q by omega) n
      have h3 := hX.HN
      obtain ⟨A', c', rfl, _, hl⟩ := hown.li (by omega)
      exact ⟨_, _, rfl, hl, hf⟩
  · have he : dcE xs d = chk xs := by unfold dcE; rw [if_pos h0]
    have hv : dcR xs d = [] := by unfold dcR; rw [he, if_neg h0]
    rw [he, hv]
    refine (rdecimate_chk A n c B xs w d hX (chk xs) rfl h0).mono ?_
    rintro e w' ⟨rfl, f⟩
    exact ⟨none, 0, rfl, LI.nil w', f⟩
end
end Go.Proofs.Ythpakpljfgmkfaa
