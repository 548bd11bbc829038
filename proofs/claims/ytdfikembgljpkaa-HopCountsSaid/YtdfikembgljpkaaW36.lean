/- HopCounts, walked. -/
import Derived.Test.YtdfikembgljpkaaW35
namespace Go.Proofs.Ytdfikembgljpkaa
open Go.RowKit

theorem backlog_n {A A2 : Option Addr} {n c c2 B B2 G : Nat} {xs ys : List Int} {t : Int} {w : World} (HG : Hid (blg xs ys t n = G)) (hX : LI w A n B xs) (hY : LI w A2 n B2 ys) :
    Calls Try.prog 20 #[.slice A n c, .slice A2 n c2, .int .i64 t] w fun e w' => e = .returned (.int .i64 (G : Int)) ∧ Frm w w' NoB := by
  refine (backlog_t A A2 n n c c2 w.heap.size xs ys t w hX.up hY.up).mono ?_
  rw [Nat.min_self, HG.out]
  exact fun e w' h => h

set_option maxHeartbeats 16000000 in
theorem hopCounts_walk (A : Option Addr) (n c B : Nat) (xs : List Int) (A2 : Option Addr) (n2 c2 B2 : Nat) (ys : List Int) (t : Int) (w : World)
    (H1 : n ≤ 600 → LI w A n B xs) (H2 : n2 ≤ 600 → LI w A2 n2 B2 ys) :
    Calls Try.prog 8 #[.slice A n c, .slice A2 n2 c2, .int .i64 t] w fun e w' => e = .returned (.bool true) ∧ Frm w w' NoB := by
  obtain ⟨p, hp⟩ : ∃ p, (decide (n ≤ 600) && decide (n2 ≤ 600)) = p := ⟨_, rfl⟩
  have HP := Lib.hid hp
  have hF : Frm w w NoB := Frm.refl w _
  cases p
  · clear hp H1 H2
    go_enter Try.func8, Try.ntmps8
    go_wp2_with (first | (go_at_call 10; (with_reducible refine (few_b HP _).mono ?_); rintro e x1 ⟨rfl, rfl⟩) | (go_at_call 11; (with_reducible refine (awake_t _).mono ?_); rintro e x1 ⟨rfl, f1⟩; replace hF := hF.trans f1 (fun _ _ h => h); clear f1))
    go_ret
    exact ⟨rfl, hF⟩
  simp only [Bool.and_eq_true, decide_eq_true_eq] at hp
  have hX := (H1 hp.1).up
  have hY := (H2 hp.2).up
  clear hp H1 H2
  obtain ⟨e0, he⟩ : ∃ e, chk xs ys 1125899906842624 = e := ⟨_, rfl⟩
  by_cases h0 : e0 = 0
  rotate_left
  · obtain ⟨ps, hps⟩ : ∃ e, pV xs ys = e := ⟨_, rfl⟩
    obtain ⟨bs, hbs⟩ : ∃ e, bV xs ys = e := ⟨_, rfl⟩
    have HE := Lib.hid he
    have HQ := Lib.hid hps
    have HW := Lib.hid hbs
    have hb : (e0 != 0) = true := by rw [bne_iff_ne]; exact h0
    clear he hps hbs h0
    go_enter Try.func8, Try.ntmps8
    go_wp2_with (first
      | (go_at_call 10; (with_reducible refine (few_b HP _).mono ?_); rintro e x1 ⟨rfl, rfl⟩)
      | (go_at_call 12; (with_reducible refine (pass_s HE HQ hX hY).mono ?_); rintro e x1 ⟨A5, c5, rfl, h5, f1⟩; replace hX := hX.frm f1; replace hY := hY.frm f1; replace hF := hF.trans f1 (fun _ _ h => h); clear f1)
      | (go_at_call 17; (with_reducible refine (busy_s HE HW hX hY).mono ?_); rintro e x1 ⟨A7, c7, rfl, h7, f1⟩; replace hF := hF.trans f1 (fun _ _ h => h); clear f1)
      | (go_at_call 11; (with_reducible refine (awake_t _).mono ?_); rintro e x1 ⟨rfl, f1⟩; replace hF := hF.trans f1 (fun _ _ h => h); clear f1))
    go_ret
    exact ⟨rfl, hF⟩
  subst h0
  obtain ⟨k1, k2, k3, k4⟩ := chk_zero he
  have hnn : n = n2 := by rw [← hX.HN, ← hY.HN]; exact k1
  subst hnn
  rw [hX.HN] at k2 k3 k4
  have hbV : bV xs ys = bsy xs ys n := by unfold bV; rw [if_pos he, hX.HN]
  have hlaw := counts_law (t := t) k3 k4
  obtain ⟨bs, hbs⟩ : ∃ l, l = bsy xs ys n := ⟨_, rfl⟩
  have hbl := bsy_len xs ys n
  rw [← hbs] at hbV hlaw hbl
  obtain ⟨nb, hnb⟩ : ∃ nb, bs.length = nb := ⟨_, rfl⟩
  rw [hnb] at hlaw hbl
  obtain ⟨ds, hds⟩ : ∃ ds, ds = deps xs ys n := ⟨_, rfl⟩
  rw [← hds] at hlaw
  obtain ⟨G, hG0⟩ : ∃ G, blg xs ds t n = G := ⟨_, rfl⟩
  rw [hG0] at hlaw
  have HLaw := Lib.hid hlaw
  have HG := Lib.hid hG0
  have HDS := Lib.hid hds
  have HNB := Lib.hid hnb
  have HE := Lib.hid he
  have HW := Lib.hid hbV
  have hn512 : n ≤ 512 := k2
  clear he hbV hbs k1 k2 k3 k4 hlaw hG0 hds hnb
  go_enter Try.func8, Try.ntmps8
  go_wp2_with (first
    | (go_at_call 10; (with_reducible refine (few_b HP _).mono ?_); rintro e x1 ⟨rfl, rfl⟩)
    | (go_at_call 12; (with_reducible refine (pass_ok HE hX hY).mono ?_); rintro e x1 ⟨A5, c5, rfl, h5, f1⟩; rw [← HDS.out] at h5; replace hX := hX.frm f1; replace hY := hY.frm f1; replace hF := hF.trans f1 (fun _ _ h => h); clear f1)
    | (go_at_call 17; (with_reducible refine (busy_n HE HW HNB hX hY).mono ?_); rintro e x2 ⟨A7, c7, rfl, h7, f1⟩; replace hX := hX.frm f1; replace hY := hY.frm f1; replace h5 := h5.frm f1; replace hF := hF.trans f1 (fun _ _ h => h); clear f1)
    | (go_at_call 11; (with_reducible refine (awake_t _).mono ?_); rintro e x1 ⟨rfl, f1⟩; replace hF := hF.trans f1 (fun _ _ h => h); clear f1))
  go_loopw [11, 12, 48] (fun cn _ i wr => ∃ k : Nat, k ≤ n ∧ i = .int .i64 k ∧ cn = .int .i64 (cnt xs ds t k) ∧ Frm x2 wr NoB) (fun _ _ i _ => n - (intOf i).toNat)
  case atStart => exact ⟨0, Nat.zero_le _, rfl, rfl, Frm.refl _ _⟩
  case round =>
    obtain ⟨k, hk, rfl, rfl, hG⟩ := hrel
    by_cases hlt : k < n
    · have hX' := hX.frm hG
      have h5' := h5.frm hG
      obtain ⟨b1, o1, rfl, _, hc1⟩ := hX'.hA.pos (by rw [hX'.HN]; omega)
      obtain ⟨b3, o3, rfl, _, hc3⟩ := h5'.hA.pos (by rw [h5'.HN]; omega)
      have q1 := hc1 k (by rw [hX'.HN]; omega)
      have q3 := hc3 k (by rw [h5'.HN]; omega)
      have hcb := cnt_bounds xs ds t k
      have hcs : cnt xs ds t (k + 1) = cnt xs ds t k + (if xs.getD k 0 ≤ t then 1 else 0) - (if ds.getD k 0 ≤ t then 1 else 0) := rfl
      obtain ⟨a, ha⟩ : ∃ x, x = xs.getD k 0 := ⟨_, rfl⟩
      obtain ⟨D, hD⟩ : ∃ x, x = ds.getD k 0 := ⟨_, rfl⟩
      obtain ⟨C, hC⟩ : ∃ x, x = cnt xs ds t k := ⟨_, rfl⟩
      rw [← ha] at q1 hcs
      rw [← hD] at q3 hcs
      rw [← hC] at hcb hcs ⊢
      have t1 : IntKind.i64.wrap (C + 1) = C + 1 := IntWalk.i64_in _ (by omega)
      have t2 : IntKind.i64.wrap (C - 1) = C - 1 := IntWalk.i64_in _ (by omega)
      have HT3 : Hid (IntKind.i64.wrap (C + 1 - 1) = C + 1 - 1) := IntWalk.i64_in _ (by omega)
      have HT4 : Hid (wrap64 C = C) := IntWalk.wrap64_in _ (by omega)
      have HS := Lib.hid hcs
      have hk0 : (0 : Int) ≤ (k : Int) := Int.natCast_nonneg _
      have hk1 : (k : Int) < (n : Int) := by omega
      clear hc1 hc3 hX' h5' ha hD hC hcs hcb
      by_cases h1 : a ≤ t
      · by_cases h2 : D ≤ t
        · rw [if_pos h1, if_pos h2] at HS
          go_wp2
          go_roundw
          case rel => exact ⟨k + 1, by omega, by go_num, by rw [HS.out]; first | rfl | exact congrArg _ HT3.out | exact congrArg _ HT4.out | (congr 1; have h4 := HT4.out; omega), hG⟩
          case measure => simp [intOf]; omega
        · rw [if_pos h1, if_neg h2] at HS
          go_wp2
          go_roundw
          case rel => exact ⟨k + 1, by omega, by go_num, by rw [HS.out]; first | rfl | exact congrArg _ HT3.out | exact congrArg _ HT4.out | (congr 1; have h4 := HT4.out; omega), hG⟩
          case measure => simp [intOf]; omega
      · by_cases h2 : D ≤ t
        · rw [if_neg h1, if_pos h2] at HS
          go_wp2
          go_roundw
          case rel => exact ⟨k + 1, by omega, by go_num, by rw [HS.out]; first | rfl | exact congrArg _ HT3.out | exact congrArg _ HT4.out | (congr 1; have h4 := HT4.out; omega), hG⟩
          case measure => simp [intOf]; omega
        · rw [if_neg h1, if_neg h2] at HS
          go_wp2
          go_roundw
          case rel => exact ⟨k + 1, by omega, by go_num, by rw [HS.out]; first | rfl | exact congrArg _ HT3.out | exact congrArg _ HT4.out | (congr 1; have h4 := HT4.out; omega), hG⟩
          case measure => simp [intOf]; omega
    · have hkn : k = n := by omega
      subst hkn
      go_wp2
      go_loopw [13, 15, 70] (fun bz _ i wr => ∃ j : Nat, j ≤ nb ∧ i = .int .i64 j ∧ bz = .bool (inn bs t j) ∧ Frm x2 wr NoB) (fun _ _ i _ => nb - (intOf i).toNat)
      case atStart => exact ⟨0, Nat.zero_le _, rfl, rfl, hG⟩
      case round =>
        clear hG
        obtain ⟨j, hj, rfl, rfl, hG⟩ := hrel
        by_cases hlt2 : j < nb
        · have h7' := h7.frm hG
          obtain ⟨b, o, rfl, hb, hc⟩ := h7'.hA (by omega)
          obtain ⟨q1, q2⟩ := hc j hlt2
          have his : inn bs t (j + 1) = (inn bs t j || (decide ((bs.getD j (0, 0)).1 ≤ t) && decide (t < (bs.getD j (0, 0)).2))) := rfl
          obtain ⟨lo, hlo⟩ : ∃ x, x = (bs.getD j (0, 0)).1 := ⟨_, rfl⟩
          obtain ⟨hi, hhi⟩ : ∃ x, x = (bs.getD j (0, 0)).2 := ⟨_, rfl⟩
          obtain ⟨Z, hZ⟩ : ∃ x, x = inn bs t j := ⟨_, rfl⟩
          rw [← hlo] at q1 his
          rw [← hhi] at q2 his
          rw [← hZ] at his ⊢
          have hbl0 : Blk (wr.alloc (.cells #[.int .i64 lo, .int .i64 hi] 33)) wr.heap.size 33 #[.int .i64 lo, .int .i64 hi] := Blk.new _ _ _
          have d1 := hbl0.cellIs (i := 0) rfl
          have d2 := hbl0.cellIs (i := 1) rfl
          have hG2 := hG.alloc (.cells #[.int .i64 lo, .int .i64 hi] 33)
          have HS := Lib.hid his
          have hk0 : (0 : Int) ≤ (j : Int) := Int.natCast_nonneg _
          have hk1 : (j : Int) < (nb : Int) := by omega
          clear hc h7' hlo hhi hZ his hX hY h5 hbl0 hG
          cases Z
          · by_cases h1 : lo ≤ t
            · by_cases h2 : t < hi
              · rw [decide_eq_true h1, decide_eq_true h2] at HS
                go_wp2
                go_roundw
                case rel => exact ⟨j + 1, by omega, by go_num, by rw [HS.out]; rfl, hG2⟩
                case measure => simp [intOf]; omega
              · rw [decide_eq_true h1, decide_eq_false h2] at HS
                go_wp2
                go_roundw
                case rel => exact ⟨j + 1, by omega, by go_num, by rw [HS.out]; rfl, hG2⟩
                case measure => simp [intOf]; omega
            · rw [decide_eq_false h1] at HS
              go_wp2
              go_roundw
              case rel => exact ⟨j + 1, by omega, by go_num, by rw [HS.out]; rfl, hG2⟩
              case measure => simp [intOf]; omega
          · go_wp2
            go_roundw
            case rel => exact ⟨j + 1, by omega, by go_num, by rw [HS.out]; rfl, hG2⟩
            case measure => simp [intOf]; omega
        · have hjn : j = nb := by omega
          obtain ⟨l1, l2⟩ := HLaw.out
          obtain ⟨z, hz⟩ : ∃ z, decide (0 < G) = z := ⟨_, rfl⟩
          have hz2 : decide ((0 : Int) < (G : Int)) = z := by rw [← hz]; exact decide_eq_decide.2 (by omega)
          rw [hjn, l1, ← l2, hz]
          clear l1 l2
          have hFF := hF.trans hG (fun _ _ h => h)
          have hX2 := hX.frm hG
          have h52 := h5.frm hG
          clear hG hF hX hY h5 h7 hjn
          cases z
          · go_wp2_with (first
              | (go_at_call 20; (with_reducible refine (backlog_n HG hX2 h52).mono ?_); rintro e x1 ⟨rfl, f1⟩; replace hFF := hFF.trans f1 (fun _ _ h => h); clear f1)
              | (go_at_call 11; (with_reducible refine (awake_t _).mono ?_); rintro e x1 ⟨rfl, f1⟩; replace hFF := hFF.trans f1 (fun _ _ h => h); clear f1))
            go_ret
            exact ⟨rfl, hFF⟩
          · go_wp2_with (first
              | (go_at_call 20; (with_reducible refine (backlog_n HG hX2 h52).mono ?_); rintro e x1 ⟨rfl, f1⟩; replace hFF := hFF.trans f1 (fun _ _ h => h); clear f1)
              | (go_at_call 11; (with_reducible refine (awake_t _).mono ?_); rintro e x1 ⟨rfl, f1⟩; replace hFF := hFF.trans f1 (fun _ _ h => h); clear f1))
            go_ret
            exact ⟨rfl, hFF⟩
end Go.Proofs.Ytdfikembgljpkaa
