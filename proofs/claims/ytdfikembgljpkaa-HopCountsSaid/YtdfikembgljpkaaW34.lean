/- HopServes, walked. -/
import Derived.Test.YtdfikembgljpkaaW33
namespace Go.Proofs.Ytdfikembgljpkaa
open Go.RowKit

theorem pass_ok {A A2 : Option Addr} {n c c2 B B2 : Nat} {xs ys : List Int} {w : World} (HE : Hid (chk xs ys 1125899906842624 = 0)) (hX : LI w A n B xs) (hY : LI w A2 n B2 ys) :
    Calls Try.prog 12 #[.slice A n c, .slice A2 n c2] w fun e w' => ∃ A' c', e = .returned (.tuple #[.slice A' n c', .int .i64 0]) ∧ LI w' A' n w'.heap.size (deps xs ys n) ∧ Frm w w' NoB := by
  have hp : pV xs ys = deps xs ys n := by unfold pV; rw [if_pos HE.out, hX.HN]
  refine (pass_s (ps := deps xs ys n) HE hp hX hY).mono ?_
  rw [deps_len]
  exact fun e w' h => h
theorem busy_n {A A2 : Option Addr} {n n2 c c2 B B2 nb : Nat} {xs ys : List Int} {bs : List (Int × Int)} {w : World} (HE : Hid (chk xs ys 1125899906842624 = 0)) (HV : Hid (bV xs ys = bs)) (HN : Hid (bs.length = nb)) (hX : LI w A n B xs) (hY : LI w A2 n2 B2 ys) :
    Calls Try.prog 17 #[.slice A n c, .slice A2 n2 c2] w fun e w' => ∃ A' c', e = .returned (.tuple #[.slice A' nb c', .int .i64 0]) ∧ LV w' A' nb w'.heap.size bs ∧ Frm w w' NoB := by
  have h := busy_s (c := c) (c2 := c2) HE HV hX hY
  rw [HN.out] at h
  exact h
theorem bi_at {xs ys : List Int} {k : Nat} {L : List (Int × Int)} (h : BI xs ys k L) {j : Nat} (hj : j < L.length) : (L.getD j (0, 0)).1 < (L.getD j (0, 0)).2 ∧ tot (L.take (j + 1)) = tot (L.take j) + ((L.getD j (0, 0)).2 - (L.getD j (0, 0)).1) := by
  have e : L.getD j (0, 0) = L[j] := by simp [List.getD, hj]
  rw [e]
  refine ⟨h.pos _ (List.getElem_mem hj), ?_⟩
  rw [List.take_succ_eq_append_getElem hj, tot_app]
theorem bi_next {xs ys : List Int} {k : Nat} {L : List (Int × Int)} (h : BI xs ys k L) {j : Nat} (hj : j + 1 < L.length) : (L.getD j (0, 0)).2 < (L.getD (j + 1) (0, 0)).1 := by
  have e1 : L.getD j (0, 0) = L[j]'(by omega) := by simp [List.getD, show j < L.length by omega]
  have e2 : L.getD (j + 1) (0, 0) = L[j + 1] := by simp [List.getD, hj]
  rw [e1, e2]
  refine h.apart (L.take j) (L.drop (j + 2)) _ _ ?_
  rw [← List.drop_eq_getElem_cons hj, ← List.drop_eq_getElem_cons (show j < L.length by omega), List.take_append_drop]
theorem tot_nonneg {l : List (Int × Int)} (h : ∀ p ∈ l, p.1 < p.2) : 0 ≤ tot l := by
  induction l with
  | nil => decide
  | cons p l ih =>
    have h1 := h p (by simp)
    have h2 := ih (fun q hq => h q (by simp [hq]))
    simp [tot] at h2 ⊢
    omega
theorem tot_take {xs ys : List Int} {k : Nat} {L : List (Int × Int)} (h : BI xs ys k L) (j : Nat) : 0 ≤ tot (L.take j) ∧ tot (L.take j) ≤ svc ys k := by
  refine ⟨tot_nonneg (fun p hp => h.pos p (List.mem_of_mem_take hp)), ?_⟩
  rw [← h.sum]
  have e : tot L = tot (L.take j) + tot (L.drop j) := by
    conv => lhs; rw [← List.take_append_drop j L]
    simp only [tot, List.map_append, List.sum_append]
  have := tot_nonneg (l := L.drop j) (fun p hp => h.pos p (List.mem_of_mem_drop hp))
  omega
theorem LV.drewN {w : World} {A : Option Addr} {n B : Nat} {l : List (Int × Int)} (h : LV w A n B l) (k : Nat) : LV (w.drewN k) A n B l := h.frm ((Frm.refl _ _).drewN k)

set_option maxHeartbeats 16000000 in
theorem hopServes_walk (A : Option Addr) (n c B : Nat) (xs : List Int) (A2 : Option Addr) (n2 c2 B2 : Nat) (ys : List Int) (w : World)
    (H1 : n ≤ 600 → LI w A n B xs) (H2 : n2 ≤ 600 → LI w A2 n2 B2 ys) :
    Calls Try.prog 7 #[.slice A n c, .slice A2 n2 c2] w fun e w' => e = .returned (.bool true) ∧ Frm w w' NoB := by
  obtain ⟨p, hp⟩ : ∃ p, (decide (n ≤ 600) && decide (n2 ≤ 600)) = p := ⟨_, rfl⟩
  have HP := Lib.hid hp
  have hF : Frm w w NoB := Frm.refl w _
  cases p
  · clear hp H1 H2
    go_enter Try.func7, Try.ntmps7
    go_wp2_with (first | (go_at_call 10; (with_reducible refine (few_b HP _).mono ?_); rintro e x1 ⟨rfl, rfl⟩) | (go_at_call 11; (with_reducible refine (awake_t _).mono ?_); rintro e x1 ⟨rfl, f1⟩; replace hF := hF.trans f1 (fun _ _ h => h); clear f1))
    go_ret
    exact ⟨rfl, hF⟩
  simp only [Bool.and_eq_true, decide_eq_true_eq] at hp
  have hX := (H1 hp.1).up
  have hY := (H2 hp.2).up
  clear hp H1 H2
  obtain ⟨e0, he⟩ : ∃ e, chk xs ys 1125899906842624 = e := ⟨_, rfl⟩
  by_cases h0 : e0 = 0
  rotate_left
  · obtain ⟨ps, hps⟩ : ∃ e, pV xs ys = e := ⟨_, rfl⟩
    obtain ⟨bs, hbs⟩ : ∃ e, bV xs ys = e := ⟨_, rfl⟩
    have HE := Lib.hid he
    have HQ := Lib.hid hps
    have HW := Lib.hid hbs
    have hb : (e0 != 0) = true := by rw [bne_iff_ne]; exact h0
    clear he hps hbs h0
    go_enter Try.func7, Try.ntmps7
    go_wp2_with (first
      | (go_at_call 10; (with_reducible refine (few_b HP _).mono ?_); rintro e x1 ⟨rfl, rfl⟩)
      | (go_at_call 12; (with_reducible refine (pass_s HE HQ hX hY).mono ?_); rintro e x1 ⟨A5, c5, rfl, h5, f1⟩; replace hX := hX.frm f1; replace hY := hY.frm f1; replace hF := hF.trans f1 (fun _ _ h => h); clear f1)
      | (go_at_call 17; (with_reducible refine (busy_s HE HW hX hY).mono ?_); rintro e x1 ⟨A7, c7, rfl, h7, f1⟩; replace hF := hF.trans f1 (fun _ _ h => h); clear f1)
      | (go_at_call 11; (with_reducible refine (awake_t _).mono ?_); rintro e x1 ⟨rfl, f1⟩; replace hF := hF.trans f1 (fun _ _ h => h); clear f1))
    go_ret
    exact ⟨rfl, hF⟩
  subst h0
  obtain ⟨k1, k2, k3, k4⟩ := chk_zero he
  have hnn : n = n2 := by rw [← hX.HN, ← hY.HN]; exact k1
  subst hnn
  rw [hX.HN] at k2 k3 k4
  have hbV : bV xs ys = bsy xs ys n := by unfold bV; rw [if_pos he, hX.HN]
  obtain ⟨bs, hbs⟩ : ∃ l, l = bsy xs ys n := ⟨_, rfl⟩
  rw [← hbs] at hbV
  have hBI := bi_all k3 k4 n (Nat.le_refl _)
  rw [← hbs] at hBI
  have hbl := bsy_len xs ys n
  rw [← hbs] at hbl
  obtain ⟨nb, hnb⟩ : ∃ nb, bs.length = nb := ⟨_, rfl⟩
  have HNB := Lib.hid hnb
  have HE := Lib.hid he
  have HW := Lib.hid hbV
  have HO := Lib.hid k3
  have HBI := Lib.hid hBI
  have hn512 : n ≤ 512 := k2
  clear he hbV hbs k1 k2 k3 k4 hBI
  go_enter Try.func7, Try.ntmps7
  go_wp2_with (first
    | (go_at_call 10; (with_reducible refine (few_b HP _).mono ?_); rintro e x1 ⟨rfl, rfl⟩)
    | (go_at_call 12; (with_reducible refine (pass_ok HE hX hY).mono ?_); rintro e x1 ⟨A5, c5, rfl, h5, f1⟩; replace hX := hX.frm f1; replace hY := hY.frm f1; replace hF := hF.trans f1 (fun _ _ h => h); clear f1)
    | (go_at_call 17; (with_reducible refine (busy_n HE HW HNB hX hY).mono ?_); rintro e x2 ⟨A7, c7, rfl, h7, f1⟩; replace hX := hX.frm f1; replace hY := hY.frm f1; replace h5 := h5.frm f1; replace hF := hF.trans f1 (fun _ _ h => h); clear f1)
    | (go_at_call 11; (with_reducible refine (awake_t _).mono ?_); rintro e x1 ⟨rfl, f1⟩; replace hF := hF.trans f1 (fun _ _ h => h); clear f1))
  go_loopw [9, 10, 49] (fun wk _ i wr => ∃ k : Nat, k ≤ n ∧ i = .int .i64 k ∧ wk = .int .i64 (svc ys k) ∧ Frm x2 wr NoB) (fun _ _ i _ => n - (intOf i).toNat)
  case atStart => exact ⟨0, Nat.zero_le _, rfl, rfl, Frm.refl _ _⟩
  case round =>
    obtain ⟨k, hk, rfl, rfl, hG⟩ := hrel
    by_cases hlt : k < n
    · have hX' := hX.frm hG
      have hY' := hY.frm hG
      have h5' := h5.frm hG
      obtain ⟨b1, o1, rfl, _, hc1⟩ := hX'.hA.pos (by rw [hX'.HN]; omega)
      obtain ⟨b2, o2, rfl, _, hc2⟩ := hY'.hA.pos (by rw [hY'.HN]; omega)
      obtain ⟨b3, o3, rfl, _, hc3⟩ := h5'.hA.pos (by rw [h5'.HN]; omega)
      have q1 := hc1 k (by rw [hX'.HN]; omega)
      have q2 := hc2 k (by rw [hY'.HN]; omega)
      have q3 := hc3 k (by rw [h5'.HN]; omega)
      rw [deps_get xs ys n k hlt] at q3
      obtain ⟨p1, p2, p3, p4⟩ := HO.out k hlt
      have hb0 := dl_bounds HO.out (by decide) k (by omega)
      have hs0 := svc_bounds HO.out k (by omega)
      have hdl : dl xs ys (k + 1) = mx (xs.getD k 0) (dl xs ys k) + ys.getD k 0 := rfl
      have hsv : svc ys (k + 1) = svc ys k + ys.getD k 0 := rfl
      have hq4 : 0 < k → wr.cell? ⟨b3, o3 + (k - 1), none⟩ = some (.int .i64 (dl xs ys k)) := fun h => by
        have := hc3 (k - 1) (by rw [h5'.HN]; omega)
        rw [deps_get xs ys n (k - 1) (by omega), Nat.sub_add_cancel h] at this
        exact this
      obtain ⟨a, ha⟩ : ∃ x, x = xs.getD k 0 := ⟨_, rfl⟩
      obtain ⟨s, hs⟩ : ∃ x, x = ys.getD k 0 := ⟨_, rfl⟩
      obtain ⟨D, hD⟩ : ∃ x, x = dl xs ys (k + 1) := ⟨_, rfl⟩
      obtain ⟨D0, hD0⟩ : ∃ x, x = dl xs ys k := ⟨_, rfl⟩
      obtain ⟨W, hW⟩ : ∃ x, x = svc ys k := ⟨_, rfl⟩
      rw [← hW] at hs0 hsv ⊢
      rw [← ha] at q1 p1 p2 hdl
      rw [← hs] at q2 p3 p4 hdl hsv
      rw [← hD] at q3 hdl
      rw [← hD0] at hb0 hdl hq4
      have hmx : a ≤ mx a D0 ∧ D0 ≤ mx a D0 := by unfold mx; split <;> omega
      have t1 : IntKind.i64.wrap (a + s) = a + s := IntWalk.i64_in _ (by omega)
      have t2 : IntKind.i64.wrap (D0 + s) = D0 + s := IntWalk.i64_in _ (by omega)
      have t3 : IntKind.i64.wrap (W + s) = W + s := IntWalk.i64_in _ (by omega)
      have g1 : decide (D < a + s) = false := decide_eq_false (by omega)
      have g2 : decide (D < D0 + s) = false := decide_eq_false (by omega)
      have g3 : ¬ D < a + s := by omega
      have g4 : ¬ D < D0 + s := by omega
      have HS := Lib.hid hsv
      have hk0 : (0 : Int) ≤ (k : Int) := Int.natCast_nonneg _
      have hk1 : (k : Int) < (n : Int) := by omega
      obtain ⟨z, hz⟩ : ∃ z, z = decide (0 < k) := ⟨_, rfl⟩
      by_cases hkp : 0 < k
      · have q4 := hq4 hkp
        obtain ⟨i, hi⟩ : ∃ i, i = k - 1 := ⟨_, rfl⟩
        rw [← hi] at q4
        have t4 : IntKind.i64.wrap ((k : Int) - 1) = (i : Int) := by rw [IntWalk.i64_in _ (by omega)]; omega
        have hi0 : (0 : Int) ≤ (i : Int) := Int.natCast_nonneg _
        have hi1 : (i : Int) < (n : Int) := by omega
        have z1 : decide ((0 : Int) < (k : Int)) = true := decide_eq_true (by omega)
        have z2 : decide (0 < k) = true := decide_eq_true hkp
        clear hc1 hc2 hc3 hX' hY' h5' ha hs hD hD0 hW hq4 hmx hdl p1 p2 p3 p4 hb0 hs0 hsv hi hz
        go_wp2
        go_quiet (fail)
        go_wp2
        go_roundw
        case rel => exact ⟨k + 1, by omega, by go_num, by rw [HS.out], hG.drewN _⟩
        case measure => simp [intOf]; omega
      · have z1 : decide ((0 : Int) < (k : Int)) = false := decide_eq_false (by omega)
        have z2 : decide (0 < k) = false := decide_eq_false hkp
        clear hc1 hc2 hc3 hX' hY' h5' ha hs hD hD0 hW hq4 hmx hdl p1 p2 p3 p4 hb0 hs0 hsv hz
        go_wp2
        go_quiet (fail)
        go_wp2
        go_roundw
        case rel => exact ⟨k + 1, by omega, by go_num, by rw [HS.out], hG.drewN _⟩
        case measure => simp [intOf]; omega
    · have hkn : k = n := by omega
      subst hkn
      have hs0 := svc_bounds HO.out k (by omega)
      go_wp2
      go_loopw [9, 11, 12, 96] (fun wk _ _ i wr => ∃ j : Nat, j ≤ nb ∧ i = .int .i64 j ∧ wk = .int .i64 (svc ys k - tot (bs.take j)) ∧ Frm x2 wr NoB) (fun _ _ _ i _ => nb - (intOf i).toNat)
      case atStart => exact ⟨0, Nat.zero_le _, rfl, by simp [tot], hG⟩
      case round =>
        clear hG
        obtain ⟨j, hj, rfl, rfl, hG⟩ := hrel
        by_cases hlt2 : j < nb
        · have h7' := h7.frm hG
          obtain ⟨b, o, rfl, hb, hc⟩ := h7'.hA (by omega)
          obtain ⟨q1, q2⟩ := hc j hlt2
          obtain ⟨i1, i2⟩ := bi_at HBI.out (j := j) (by rw [HNB.out]; exact hlt2)
          have i3 := tot_take HBI.out j
          have i4 := tot_take HBI.out (j + 1)
          have i5 : 0 < j → (bs.getD (j - 1) (0, 0)).2 < (bs.getD j (0, 0)).1 := fun h => by
            have := bi_next HBI.out (j := j - 1) (by rw [HNB.out]; omega)
            rw [Nat.sub_add_cancel h] at this
            exact this
          have hq4 : 0 < j → wr.cell? ⟨b, o + (j - 1) * 2 + 1, none⟩ = some (.int .i64 (bs.getD (j - 1) (0, 0)).2) := fun h => (hc (j - 1) (by omega)).2
          obtain ⟨lo, hlo⟩ : ∃ x, x = (bs.getD j (0, 0)).1 := ⟨_, rfl⟩
          obtain ⟨hi, hhi⟩ : ∃ x, x = (bs.getD j (0, 0)).2 := ⟨_, rfl⟩
          obtain ⟨hp, hhp⟩ : ∃ x, x = (bs.getD (j - 1) (0, 0)).2 := ⟨_, rfl⟩
          obtain ⟨W, hW⟩ : ∃ x, x = svc ys k - tot (bs.take j) := ⟨_, rfl⟩
          have hW2 : svc ys k - tot (bs.take (j + 1)) = W - (hi - lo) := by rw [hW, i2, ← hlo, ← hhi]; omega
          rw [← hlo, ← hhi] at i1 i2
          rw [← hhp, ← hlo] at i5
          rw [← hhp] at hq4
          rw [← hlo] at q1
          rw [← hhi] at q2
          rw [← hW]
          have hbl0 : Blk (wr.alloc (.cells #[.int .i64 lo, .int .i64 hi] 33)) wr.heap.size 33 #[.int .i64 lo, .int .i64 hi] := Blk.new _ _ _
          have d1 := hbl0.cellIs (i := 0) rfl
          have d2 := hbl0.cellIs (i := 1) rfl
          have hG2 := hG.alloc (.cells #[.int .i64 lo, .int .i64 hi] 33)
          have hbw : b < wr.heap.size := Nat.lt_of_lt_of_le hb h7'.hB
          have t1 : IntKind.i64.wrap (hi - lo) = hi - lo := IntWalk.i64_in _ (by omega)
          have t2 : IntKind.i64.wrap (W - (hi - lo)) = W - (hi - lo) := IntWalk.i64_in _ (by omega)
          have g1 : decide (hi ≤ lo) = false := decide_eq_false (by omega)
          have g2 : ¬ hi ≤ lo := by omega
          have HW2 := Lib.hid hW2
          have hk0 : (0 : Int) ≤ (j : Int) := Int.natCast_nonneg _
          have hk1 : (j : Int) < (nb : Int) := by omega
          by_cases hkp : 0 < j
          · have q4 := (((Frm.refl wr NoB).alloc (.cells #[.int .i64 lo, .int .i64 hi] 33)).cell (p := ⟨b, o + (j - 1) * 2 + 1, none⟩) hbw (fun h => h)).trans (hq4 hkp)
            have g3 : decide (lo ≤ hp) = false := decide_eq_false (by have := i5 hkp; omega)
            have g4 : ¬ lo ≤ hp := by have := i5 hkp; omega
            obtain ⟨i, hi'⟩ : ∃ i, i = j - 1 := ⟨_, rfl⟩
            rw [← hi'] at q4
            have t4 : IntKind.i64.wrap ((j : Int) - 1) = (i : Int) := by rw [IntWalk.i64_in _ (by omega)]; omega
            have hi0 : (0 : Int) ≤ (i : Int) := Int.natCast_nonneg _
            have hi1 : (i : Int) < (nb : Int) := by omega
            have z1 : decide ((0 : Int) < (j : Int)) = true := decide_eq_true (by omega)
            have z2 : decide (0 < j) = true := decide_eq_true hkp
            clear hc h7' hlo hhi hhp hW hW2 hq4 i1 i2 i3 i4 i5 hi' hX hY h5 hbl0 hG hs0
            go_wp2
            go_quiet (fail)
            go_wp2
            go_roundw
            case rel => exact ⟨j + 1, by omega, by go_num, by rw [HW2.out], hG2.drewN _⟩
            case measure => simp [intOf]; omega
          · have z1 : decide ((0 : Int) < (j : Int)) = false := decide_eq_false (by omega)
            have z2 : decide (0 < j) = false := decide_eq_false hkp
            clear hc h7' hlo hhi hhp hW hW2 hq4 i1 i2 i3 i4 i5 hX hY h5 hbl0 hG hs0
            go_wp2
            go_quiet (fail)
            go_wp2
            go_roundw
            case rel => exact ⟨j + 1, by omega, by go_num, by rw [HW2.out], hG2.drewN _⟩
            case measure => simp [intOf]; omega
        · have hjn : j = nb := by omega
          have hz : svc ys k - tot (bs.take j) = 0 := by
            rw [hjn, ← HNB.out, List.take_length, HBI.out.sum]; omega
          rw [hz]
          have hFF := hF.trans hG (fun _ _ h => h)
          clear hz hG hF hX hY h5 h7
          go_wp2_with (first | (go_at_call 11; (with_reducible refine (awake_t _).mono ?_); rintro e x1 ⟨rfl, f1⟩; replace hFF := hFF.trans f1 (fun _ _ h => h); clear f1))
          go_ret
          exact ⟨rfl, hFF⟩
end Go.Proofs.Ytdfikembgljpkaa
