/- HopParts, walked. -/
import Derived.Test.YtdfikembgljpkaaW31
namespace Go.Proofs.Ytdfikembgljpkaa
open Go.RowKit

theorem slices_t (S : Option Addr) (m d q : Nat) (ss : List (List Int)) (hq : q ≤ m) (hd : m ≤ d) : ∃ S1 S2 m2 d2,
    (∀ w, (Instr.sliceAt 36 (.slice S m d) none (some (.int .i64 (q : Int))) none).run Try.prog w = .ok (.slice S1 q d) w) ∧
    (∀ w, (Instr.sliceAt 36 (.slice S m d) (some (.int .i64 (q : Int))) none none).run Try.prog w = .ok (.slice S2 m2 d2) w) ∧
    ∀ w B, LS w S m B ss → LS w S1 q B (ss.take q) ∧ LS w S2 m2 B (ss.drop q) := by
  have hu : Try.prog.underlying 36 = some (.slice (Try.prog.elem 36)) := by kernel_rfl
  have hc : ∀ w, (sizeOf (Try.prog.elem 36)).run Try.prog w = .ok 1 w := fun w => by kernel_rfl
  refine ⟨if d = 0 then S else S.map (·.add (0 * 1)), if d = q then S else S.map (·.add (q * 1)), m - q, d - q, fun w => ?_, fun w => ?_, fun w B h => ⟨?_, ?_⟩⟩
  · rw [run_sliceAt_slice _ _ _ _ _ _ hu, run_slice_h _ _ _ _ _ hu .i64 (q : Int) (by omega) (by omega), hc]
    simp [Result.andThen, sliced]
  · rw [run_sliceAt_slice _ _ _ _ _ _ hu, run_slice_l _ _ _ _ _ hu .i64 (q : Int) (by omega) (by omega), hc]
    simp [Result.andThen, sliced]
  · refine ⟨by have := h.hn; omega, by have := h.HN; simp; omega, fun hp => ?_, h.hB⟩
    obtain ⟨b, o, rfl, hb, hcell⟩ := h.hA (by omega)
    rw [if_neg (by omega)]
    refine ⟨b, o, by simp [Addr.add], hb, fun j hj => ?_⟩
    obtain ⟨Aj, cj, q1, q2⟩ := hcell j (by omega)
    have e : (ss.take q).getD j [] = ss.getD j [] := by simp [List.getD, hj]
    rw [e]
    exact ⟨Aj, cj, q1, q2⟩
  · refine ⟨by have := h.hn; omega, by have := h.HN; simp; omega, fun hp => ?_, h.hB⟩
    obtain ⟨b, o, rfl, hb, hcell⟩ := h.hA (by omega)
    rw [if_neg (by omega)]
    refine ⟨b, o + q, by simp [Addr.add], hb, fun j hj => ?_⟩
    obtain ⟨Aj, cj, q1, q2⟩ := hcell (q + j) (by omega)
    have e : (ss.drop q).getD j [] = ss.getD (q + j) [] := by simp [List.getD]
    rw [e]
    exact ⟨Aj, cj, by rw [Nat.add_assoc]; exact q1, q2⟩

theorem chV_le {xs : List Int} {n : Nat} (h : xs.length = n) (ss : List (List Int)) : (chV xs ss).length ≤ n := by
  unfold chV
  split
  · rw [arrk_len, h]; exact Nat.le_refl _
  · exact Nat.zero_le _
set_option maxHeartbeats 8000000 in
theorem hopParts_walk (A : Option Addr) (n c B : Nat) (xs : List Int) (S : Option Addr) (m d B2 : Nat) (ss : List (List Int)) (cut : Int) (w : World)
    (H1 : n ≤ 600 → LI w A n B xs) (hm : ss.length = m) (HS : RdS w B2 S ss) (hB2 : B2 ≤ w.heap.size) (hd : m ≤ d) :
    Calls Try.prog 9 #[.slice A n c, .slice S m d, .int .i64 cut] w fun e w' => e = .returned (.bool true) ∧ Frm w w' NoB := by
  have hF : Frm w w NoB := Frm.refl w _
  by_cases h20 : 20 < m
  · clear H1 HS
    have hi : (20 : Int) < (m : Int) := by omega
    go_enter Try.func9, Try.ntmps9
    go_wp2_with (first | (go_at_call 11; (with_reducible refine (awake_t _).mono ?_); rintro e x1 ⟨rfl, f1⟩; replace hF := hF.trans f1 (fun _ _ h => h); clear f1))
    go_ret
    exact ⟨rfl, hF⟩
  obtain ⟨p, hp⟩ : ∃ p, (decide (n ≤ 600) && decide (0 ≤ 600)) = p := ⟨_, rfl⟩
  have HP := Lib.hid hp
  have hi : ¬ (20 : Int) < (m : Int) := by omega
  cases p
  · clear hp H1 HS
    go_enter Try.func9, Try.ntmps9
    go_wp2_with (first | (go_at_call 10; (with_reducible refine (few_b HP _).mono ?_); rintro e x1 ⟨rfl, rfl⟩) | (go_at_call 11; (with_reducible refine (awake_t _).mono ?_); rintro e x1 ⟨rfl, f1⟩; replace hF := hF.trans f1 (fun _ _ h => h); clear f1))
    go_ret
    exact ⟨rfl, hF⟩
  simp only [Bool.and_eq_true, decide_eq_true_eq] at hp
  have hX := (H1 hp.1).up
  clear hp H1
  by_cases hc1 : cut < 0
  · clear HS hX
    go_enter Try.func9, Try.ntmps9
    go_wp2_with (first | (go_at_call 10; (with_reducible refine (few_b HP _).mono ?_); rintro e x1 ⟨rfl, rfl⟩) | (go_at_call 11; (with_reducible refine (awake_t _).mono ?_); rintro e x1 ⟨rfl, f1⟩; replace hF := hF.trans f1 (fun _ _ h => h); clear f1))
    go_ret
    exact ⟨rfl, hF⟩
  by_cases hc2 : (m : Int) < cut
  · clear HS hX
    go_enter Try.func9, Try.ntmps9
    go_wp2_with (first | (go_at_call 10; (with_reducible refine (few_b HP _).mono ?_); rintro e x1 ⟨rfl, rfl⟩) | (go_at_call 11; (with_reducible refine (awake_t _).mono ?_); rintro e x1 ⟨rfl, f1⟩; replace hF := hF.trans f1 (fun _ _ h => h); clear f1))
    go_ret
    exact ⟨rfl, hF⟩
  obtain ⟨q, rfl⟩ : ∃ q : Nat, cut = (q : Int) := ⟨cut.toNat, by omega⟩
  have hqm : q ≤ m := by omega
  have hd1 : decide ((m : Int) < (q : Int)) = false := decide_eq_false (by omega)
  have hd2 : decide ((q : Int) < 0) = false := decide_eq_false (by omega)
  have hd3 : decide (m < q) = false := decide_eq_false (by omega)
  have hd4 : decide ((20 : Int) < (m : Int)) = false := decide_eq_false (by omega)
  have hd5 : decide (20 < m) = false := decide_eq_false (by omega)
  clear hc1 hc2 hi
  obtain ⟨S1, S2, m2, d2, sl1, sl2, hSS⟩ := slices_t S m d q ss hqm hd
  go_enter Try.func9, Try.ntmps9
  go_wp2_with (first | (go_at_call 10; (with_reducible refine (few_b HP _).mono ?_); rintro e x1 ⟨rfl, rfl⟩))
  go_loopw [36, 8] (fun i _ wr => ∃ k : Nat, k ≤ m ∧ i = .int .i64 k ∧ Hid (∀ j, j < k → (ss.getD j []).length ≤ 600) ∧ w = wr) (fun i _ _ => m - (intOf i).toNat)
  case atStart => exact ⟨0, Nat.zero_le _, rfl, fun j h => by omega, rfl⟩
  case round =>
    obtain ⟨k, hk, rfl, HK, rfl⟩ := hrel
    by_cases hlt : k < m
    · obtain ⟨b, o, rfl, _, hc⟩ := HS.pos (by omega)
      obtain ⟨Aj, cj, q1, _⟩ := hc k (by omega)
      obtain ⟨nj, hnj⟩ : ∃ nj, (ss.getD k []).length = nj := ⟨_, rfl⟩
      rw [hnj] at q1
      obtain ⟨r, hr⟩ : ∃ r, (decide (nj ≤ 600) && decide (0 ≤ 600)) = r := ⟨_, rfl⟩
      have HQ := Lib.hid hr
      have hk0 : (0 : Int) ≤ (k : Int) := Int.natCast_nonneg _
      have hk1 : (k : Int) < (m : Int) := by omega
      cases r
      · clear hr hc hnj HS hX hSS sl1 sl2
        go_wp2_with (first | (go_at_call 10; (with_reducible refine (few_b HQ _).mono ?_); rintro e x1 ⟨rfl, rfl⟩) | (go_at_call 11; (with_reducible refine (awake_t _).mono ?_); rintro e x1 ⟨rfl, f1⟩; replace hF := hF.trans f1 (fun _ _ h => h); clear f1))
        go_ret
        exact ⟨rfl, hF⟩
      · simp only [Bool.and_eq_true, decide_eq_true_eq] at hr
        have HK2 : Hid (∀ j, j < k + 1 → (ss.getD j []).length ≤ 600) := fun j hj => by
          rcases Nat.lt_or_ge j k with h | h
          · exact HK.out j h
          · obtain rfl : j = k := by omega
            rw [hnj]; exact hr.1
        clear hr hc hnj hX hSS sl1 sl2
        go_wp2_with (first | (go_at_call 10; (with_reducible refine (few_b HQ _).mono ?_); rintro e x1 ⟨rfl, rfl⟩))
        go_roundw
        case rel => exact ⟨k + 1, by omega, by go_num, HK2, by trivial⟩
        case measure => simp [intOf]; omega
    · have hkm : k = m := by omega
      subst hkm
      have hS := HS.ls hm (by omega) hB2 HK.out
      obtain ⟨e0, he⟩ : ∃ e, chE xs ss = e := ⟨_, rfl⟩
      obtain ⟨ps, hps⟩ : ∃ e, chV xs ss = e := ⟨_, rfl⟩
      obtain ⟨e1, he1⟩ : ∃ e, chE xs (ss.take q) = e := ⟨_, rfl⟩
      obtain ⟨ps1, hps1⟩ : ∃ e, chV xs (ss.take q) = e := ⟨_, rfl⟩
      have hlaw := fun a b c => parts_law (xs := xs) (ps1 := ps1) (q := q) (by omega : q ≤ ss.length) a b hps1 c
      rw [he, he1] at hlaw
      have HE := Lib.hid he
      have HQ := Lib.hid hps
      have HE1 := Lib.hid he1
      have HQ1 := Lib.hid hps1
      clear he hps he1 hps1 HS
      by_cases h0 : e0 = 0
      rotate_left
      · have hb : (e0 != 0) = true := by rw [bne_iff_ne]; exact h0
        clear hlaw h0
        go_wp2_with (first | (go_at_call 22; (with_reducible refine (chain_s HE HQ hX hS).mono ?_); rintro e x1 ⟨A9, c9, rfl, h9, f1⟩; replace hX := hX.frm f1; replace hS := hS.frm f1; replace hF := hF.trans f1 (fun _ _ h => h); clear f1) | (go_at_call 22; (with_reducible refine (chain_s HE1 HQ1 hX (hSS _ _ hS).1).mono ?_); rintro e x1 ⟨A11, c11, rfl, h11, f1⟩; replace hS := hS.frm f1; replace h9 := h9.frm f1; replace hF := hF.trans f1 (fun _ _ h => h); clear f1) | (go_at_call 11; (with_reducible refine (awake_t _).mono ?_); rintro e x1 ⟨rfl, f1⟩; replace hF := hF.trans f1 (fun _ _ h => h); clear f1))
        go_ret
        exact ⟨rfl, hF⟩
      by_cases h1 : e1 = 0
      rotate_left
      · have hb : (e1 != 0) = true := by rw [bne_iff_ne]; exact h1
        subst h0
        clear hlaw h1
        go_wp2_with (first | (go_at_call 22; (with_reducible refine (chain_s HE HQ hX hS).mono ?_); rintro e x1 ⟨A9, c9, rfl, h9, f1⟩; replace hX := hX.frm f1; replace hS := hS.frm f1; replace hF := hF.trans f1 (fun _ _ h => h); clear f1) | (go_at_call 22; (with_reducible refine (chain_s HE1 HQ1 hX (hSS _ _ hS).1).mono ?_); rintro e x1 ⟨A11, c11, rfl, h11, f1⟩; replace hS := hS.frm f1; replace h9 := h9.frm f1; replace hF := hF.trans f1 (fun _ _ h => h); clear f1) | (go_at_call 11; (with_reducible refine (awake_t _).mono ?_); rintro e x1 ⟨rfl, f1⟩; replace hF := hF.trans f1 (fun _ _ h => h); clear f1))
        go_ret
        exact ⟨rfl, hF⟩
      subst h0 h1
      replace hlaw := hlaw rfl rfl
      by_cases hnil : ps1.length = 0
      · obtain ⟨h2, h3⟩ := hlaw (.inl (List.length_eq_zero_iff.1 hnil))
        rw [HQ.out] at h3
        have HE2 := Lib.hid h2
        have HQ2 := Lib.hid h3
        have hl1 : decide ((0 : Int) < (ps1.length : Int)) = false := decide_eq_false (by omega)
        have hl2 : decide (0 < ps1.length) = false := decide_eq_false (by omega)
        clear hlaw h2 h3 hnil
        go_wp2_with (first | (go_at_call 22; (with_reducible refine (chain_s HE HQ hX hS).mono ?_); rintro e x1 ⟨A9, c9, rfl, h9, f1⟩; replace hX := hX.frm f1; replace hS := hS.frm f1; replace hF := hF.trans f1 (fun _ _ h => h); clear f1) | (go_at_call 22; (with_reducible refine (chain_s HE1 HQ1 hX (hSS _ _ hS).1).mono ?_); rintro e x1 ⟨A11, c11, rfl, h11, f1⟩; replace hS := hS.frm f1; replace h9 := h9.frm f1; replace hF := hF.trans f1 (fun _ _ h => h); clear f1) | (go_at_call 22; (with_reducible refine (chain_s HE2 HQ2 h11 (hSS _ _ hS).2).mono ?_); rintro e x1 ⟨A13, c13, rfl, h13, f1⟩; replace h9 := h9.frm f1; replace hF := hF.trans f1 (fun _ _ h => h); clear f1) | (go_at_call 16; (with_reducible refine (eql_li h9 h13).mono ?_); rintro e x1 ⟨rfl, f1⟩; replace hF := hF.trans f1 (fun _ _ h => h); clear f1) | (go_at_call 11; (with_reducible refine (awake_t _).mono ?_); rintro e x1 ⟨rfl, f1⟩; replace hF := hF.trans f1 (fun _ _ h => h); clear f1))
        go_ret
        exact ⟨rfl, hF⟩
      · obtain ⟨K, hK⟩ : ∃ K, ps1.length = K + 1 := ⟨ps1.length - 1, by omega⟩
        obtain ⟨z, hz⟩ : ∃ z, z = ps1.getD K 0 := ⟨_, rfl⟩
        have hl1 : decide ((0 : Int) < (ps1.length : Int)) = true := decide_eq_true (by omega)
        have hl2 : decide (0 < ps1.length) = true := decide_eq_true (by omega)
        have hK0 : 0 < ps1.length := by omega
        have hK1 : K < ps1.length := by omega
        have hk0 : (0 : Int) ≤ (K : Int) := Int.natCast_nonneg _
        have hk1 : (K : Int) < (ps1.length : Int) := by omega
        have hle : ps1.length ≤ 17592186044416 := by rw [← HQ1.out]; exact Nat.le_trans (chV_le hX.HN _) hX.hn
        have t1 : IntKind.i64.wrap ((ps1.length : Int) - 1) = (K : Int) := by rw [IntWalk.i64_in _ (by omega)]; omega
        have hcat : ps1 = ps1.take K ++ [z] := by
          rw [hz]
          have h := List.take_append_drop K ps1
          have e : ps1.drop K = [ps1.getD K 0] := by
            rw [List.drop_eq_getElem_cons hK1, List.drop_of_length_le (by omega)]
            simp [List.getD, hK1]
          rw [e] at h
          exact h.symm
        have HZ := Lib.hid hz
        clear hz
        by_cases hzm : 1125899906842624 < z
        · clear hlaw hcat hnil hK hle
          go_wp2_with (first | (go_at_call 22; (with_reducible refine (chain_s HE HQ hX hS).mono ?_); rintro e x1 ⟨A9, c9, rfl, h9, f1⟩; replace hX := hX.frm f1; replace hS := hS.frm f1; replace hF := hF.trans f1 (fun _ _ h => h); clear f1) | (go_at_call 22; (with_reducible refine (chain_s HE1 HQ1 hX (hSS _ _ hS).1).mono ?_); rintro e x1 ⟨A11, c11, rfl, h11, f1⟩; obtain ⟨b3, o3, rfl, _, hcc⟩ := h11.hA.pos hK0; replace hcc := hcc K hK1; rw [← HZ.out] at hcc; replace hS := hS.frm f1; replace h9 := h9.frm f1; replace hF := hF.trans f1 (fun _ _ h => h); clear f1) | (go_at_call 11; (with_reducible refine (awake_t _).mono ?_); rintro e x1 ⟨rfl, f1⟩; replace hF := hF.trans f1 (fun _ _ h => h); clear f1))
          go_ret
          exact ⟨rfl, hF⟩
        · obtain ⟨h2, h3⟩ := hlaw (.inr ⟨_, _, hcat, by omega⟩)
          rw [HQ.out] at h3
          have HE2 := Lib.hid h2
          have HQ2 := Lib.hid h3
          clear hlaw h2 h3 hnil hcat hK hle
          go_wp2_with (first | (go_at_call 22; (with_reducible refine (chain_s HE HQ hX hS).mono ?_); rintro e x1 ⟨A9, c9, rfl, h9, f1⟩; replace hX := hX.frm f1; replace hS := hS.frm f1; replace hF := hF.trans f1 (fun _ _ h => h); clear f1) | (go_at_call 22; (with_reducible refine (chain_s HE1 HQ1 hX (hSS _ _ hS).1).mono ?_); rintro e x1 ⟨A11, c11, rfl, h11, f1⟩; obtain ⟨b3, o3, rfl, _, hcc⟩ := h11.hA.pos hK0; replace hcc := hcc K hK1; rw [← HZ.out] at hcc; replace hS := hS.frm f1; replace h9 := h9.frm f1; replace hF := hF.trans f1 (fun _ _ h => h); clear f1) | (go_at_call 22; (with_reducible refine (chain_s HE2 HQ2 h11 (hSS _ _ hS).2).mono ?_); rintro e x1 ⟨A13, c13, rfl, h13, f1⟩; replace h9 := h9.frm f1; replace hF := hF.trans f1 (fun _ _ h => h); clear f1) | (go_at_call 16; (with_reducible refine (eql_li h9 h13).mono ?_); rintro e x1 ⟨rfl, f1⟩; replace hF := hF.trans f1 (fun _ _ h => h); clear f1) | (go_at_call 11; (with_reducible refine (awake_t _).mono ?_); rintro e x1 ⟨rfl, f1⟩; replace hF := hF.trans f1 (fun _ _ h => h); clear f1))
          go_ret
          exact ⟨rfl, hF⟩
end Go.Proofs.Ytdfikembgljpkaa
