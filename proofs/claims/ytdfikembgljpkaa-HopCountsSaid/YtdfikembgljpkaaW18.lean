/- Chain of the program: there are hops, and at most 16. -/
import Derived.Test.YtdfikembgljpkaaW17
namespace Go.Proofs.Ytdfikembgljpkaa
open Go.RowKit

abbrev big : Int := 9223372036854775807
/-- A value that reads as what Chain returns. -/
def ChR (w : World) (xs : List Int) (ss : List (List Int)) (m : Nat) (v : Value) : Prop :=
  ∃ A n c B, v = .slice A n c ∧ LI w A n B (if ferr big xs ss m = 0 then arrk xs ss m else [])
section
variable (A S : Option Addr) (n m c d B : Nat) (xs : List Int) (ss : List (List Int)) (w : World)
set_option maxHeartbeats 8000000 in
theorem chain_in (hX : LI w A n B xs) (hS : LS w S m B ss) (hm0 : 0 < m) (hm : m ≤ 16) :
    Calls Try.prog 22 #[.slice A n c, .slice S m d] w fun e w' => ∃ v, e = .returned (.tuple #[v, .int .i64 (ferr big xs ss m)]) ∧ ChR w' xs ss m v ∧ Frm w w' NoB := by
  have hF : Frm w w NoB := Frm.refl w _
  have HX := Lib.hid hX.HN
  have hm1 : ((m : Int) == 0) = false := beq_eq_false_iff_ne.2 (by omega)
  go_enter Try.func22, Try.ntmps22
  go_wp2
  go_loopw [0, 6, 8, 9, 25] (fun v lat _ _ i wr => ∃ k : Nat, k ≤ m ∧ i = .int .i64 k ∧ Hid (goodk big xs ss k) ∧ lat = .int .i64 (latk big k) ∧ (∃ A' c' B', v = .slice A' n c' ∧ LI wr A' n B' (arrk xs ss k)) ∧ Frm w wr NoB) (fun _ _ _ _ i _ => m - (intOf i).toNat)
  case atStart => exact ⟨0, Nat.zero_le _, rfl, fun _ h => by omega, rfl, ⟨_, _, _, rfl, hX⟩, hF⟩
  case round =>
    clear hF hX
    obtain ⟨k, hk, rfl, HG, rfl, ⟨Aq, cq, Bq, rfl, hX⟩, hF⟩ := hrel
    by_cases hlt : k < m
    · obtain ⟨b, o, rfl, _, hc⟩ := (hS.frm hF).hA hm0
      obtain ⟨Aj, cj, q1, hJ⟩ := hc k hlt
      obtain ⟨nj, hnj⟩ : ∃ nj, nj = (ss.getD k []).length := ⟨_, rfl⟩
      rw [← hnj] at q1 hJ
      obtain ⟨L, hL⟩ : ∃ L, L = latk big k := ⟨_, rfl⟩
      rw [← hL]
      obtain ⟨e0, he⟩ : ∃ e, errk big xs ss k = e := ⟨_, rfl⟩
      have HE : Hid (chk (arrk xs ss k) (ss.getD k []) L = e0) := by rw [hL]; exact he
      have hk0 : (0 : Int) ≤ (k : Int) := Int.natCast_nonneg _
      have hk1 : (k : Int) < (m : Int) := by omega
      by_cases h0 : e0 = 0
      · subst h0
        obtain ⟨f1, f2, f3⟩ := hop_fits HG.out he (by omega)
        have e1 : nj = n := by rw [hnj, ← f1, arrk_len]; exact HX.out
        subst e1
        rw [arrk_len, HX.out] at f3
        rw [HX.out] at f2
        have Hn := Lib.hid f2
        have HF := Lib.hid f3
        have HG2 := Lib.hid (goodk_succ HG.out he)
        have HD : Hid (arrk xs ss (k + 1) = deps (arrk xs ss k) (ss.getD k []) nj) := by unfold Hid; rw [arrk, arrk_len, HX.out]
        clear he hL hnj f1 f2 f3 hc
        replace hX := hX.more (B' := wr.heap.size) hX.hB (Nat.le_refl _)
        replace hJ := hJ.more (B' := wr.heap.size) hJ.hB (Nat.le_refl _)
        go_wp2_with (first
          | (go_at_call 24; (with_reducible refine (check_b HE hX hJ).mono ?_); rintro e x1 ⟨rfl, f1⟩; replace hX := hX.frm f1; replace hJ := hJ.frm f1; replace hF := hF.trans f1 (fun _ _ e => e))
          | (go_at_call 25; (with_reducible refine (dep_t Aq Aj nj cq cj _ _ _ _ hX hJ Hn.out HF.out).mono ?_); rintro e x2 ⟨v, rfl, ho, f2⟩; obtain ⟨An, cn, rfl, hN⟩ := ho.li (by have := Hn.out; omega)))
        rw [← HD.out] at hN
        go_roundw
        case rel => exact ⟨k + 1, by omega, by go_num, HG2.out, rfl, ⟨_, _, _, rfl, hN⟩, hF.trans f2 (fun _ _ e => e)⟩
        case measure => simp [intOf]; omega
      · have hb : (e0 != 0) = true := by rw [bne_iff_ne]; exact h0
        have HR := Lib.hid (ferr_bad HG.out (by rw [he]; exact h0) hlt)
        have HZ := Lib.hid h0
        have HQ := Lib.hid he
        clear he hL hnj hc h0
        replace hX := hX.more (B' := wr.heap.size) hX.hB (Nat.le_refl _)
        replace hJ := hJ.more (B' := wr.heap.size) hJ.hB (Nat.le_refl _)
        go_wp2_with (first
          | (go_at_call 24; (with_reducible refine (check_b HE hX hJ).mono ?_); rintro e x1 ⟨rfl, f1⟩; replace hF := hF.trans f1 (fun _ _ e => e)))
        go_ret2
        have hR2 := HR.out.trans HQ.out
        exact ⟨_, by rw [hR2]; rfl, ⟨none, 0, 0, 0, rfl, by rw [hR2, if_neg HZ.out]; exact ⟨Nat.zero_le _, rfl, .inl rfl, Nat.zero_le _⟩⟩, hF⟩
    · have hkm : k = m := by omega
      subst hkm
      have HR := Lib.hid (ferr_good k HG.out)
      go_wp2
      go_ret2
      exact ⟨_, by rw [HR.out]; rfl, ⟨_, _, _, _, rfl, by rw [HR.out, if_pos rfl]; exact hX⟩, hF⟩
end
end Go.Proofs.Ytdfikembgljpkaa
