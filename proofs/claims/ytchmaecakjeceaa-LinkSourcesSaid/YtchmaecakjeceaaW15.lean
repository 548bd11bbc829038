/- Facts about links that are valid; the law's own test of a message. -/
import Derived.Test.YtchmaecakjeceaaW11
import Derived.Test.YtchmaecakjeceaaW12
namespace Go.Proofs.Ytchmaecakjeceaa
open Go.RowKit

/-- Is a message right? -/
def rt (dir at_ m : Int) : Bool := okr 1 dir && okr 1125899906842624 at_ && okr 1099511627776 m
theorem rt_iff {dir at_ m : Int} : rt dir at_ m = true ↔ (0 ≤ dir ∧ dir ≤ 1) ∧ (0 ≤ at_ ∧ at_ ≤ 1125899906842624) ∧ 0 ≤ m ∧ m ≤ 1099511627776 := by
  unfold rt; simp only [Bool.and_eq_true, okr_iff]
  exact ⟨fun ⟨⟨a, b⟩, c⟩ => ⟨a, b, c⟩, fun ⟨a, b, c⟩ => ⟨⟨a, b⟩, c⟩⟩
theorem rt_no {dir at_ m : Int} (h : ¬ ((0 ≤ dir ∧ dir ≤ 1) ∧ (0 ≤ at_ ∧ at_ ≤ 1125899906842624) ∧ 0 ≤ m ∧ m ≤ 1099511627776)) : rt dir at_ m = false := by
  rw [← Bool.not_eq_true, rt_iff]; exact h
theorem rt_vld {d0 d1 v0 v1 ls : Int} {cs : List Chg} {dir at_ m : Int} (hc : chk d0 d1 v0 v1 ls cs = 0) (h : rt dir at_ m = true) : vld d0 d1 v0 v1 ls cs dir at_ m = true :=
  vld_iff.2 ⟨hc, rt_iff.1 h⟩

set_option maxHeartbeats 4000000 in
theorem lright_t (dir at_ m : Int) (w : World) : Calls Try.prog 24 #[.int .i64 dir, .int .i64 at_, .int .i64 m] w fun e w' => e = .returned (.bool (rt dir at_ m)) ∧ w = w' := by
  by_cases h : dir = 0 ∨ dir = 1
  · have hx : ((dir == 0) = true ∨ (dir == 0) = false ∧ (dir == 1) = true) := by
      rcases h with rfl | rfl
      · left; rfl
      · right; exact ⟨rfl, rfl⟩
    have hd : 0 ≤ dir ∧ dir ≤ 1 := by omega
    clear h
    by_cases a0 : 0 ≤ at_
    · by_cases a1 : at_ ≤ 1125899906842624
      · by_cases m0 : 0 ≤ m
        · have hR : rt dir at_ m = decide (m ≤ 1099511627776) := by
            rw [Bool.eq_iff_iff, rt_iff, decide_eq_true_iff]
            omega
          rw [hR]
          clear hR hd
          rcases hx with x0 | ⟨x0, x1⟩ <;> (go_enter Try.func24, Try.ntmps24; go_wp2; go_ret; exact ⟨rfl, rfl⟩)
        · rw [rt_no (by omega)]
          clear hd
          rcases hx with x0 | ⟨x0, x1⟩ <;> (go_enter Try.func24, Try.ntmps24; go_wp2; go_ret; exact ⟨rfl, rfl⟩)
      · rw [rt_no (by omega)]
        clear hd
        rcases hx with x0 | ⟨x0, x1⟩ <;> (go_enter Try.func24, Try.ntmps24; go_wp2; go_ret; exact ⟨rfl, rfl⟩)
    · rw [rt_no (by omega)]
      clear hd
      rcases hx with x0 | ⟨x0, x1⟩ <;> (go_enter Try.func24, Try.ntmps24; go_wp2; go_ret; exact ⟨rfl, rfl⟩)
  · have x0 : (dir == 0) = false := beq_eq_false_iff_ne.2 (by omega)
    have x1 : (dir == 1) = false := beq_eq_false_iff_ne.2 (by omega)
    rw [rt_no (by omega)]
    clear h
    go_enter Try.func24, Try.ntmps24
    go_wp2
    go_ret
    exact ⟨rfl, rfl⟩
theorem lright_b {dir at_ m : Int} {p : Bool} (H : Hid (rt dir at_ m = p)) (w : World) : Calls Try.prog 24 #[.int .i64 dir, .int .i64 at_, .int .i64 m] w fun e w' => e = .returned (.bool p) ∧ w = w' := by
  have k := lright_t dir at_ m w
  rw [H.out] at k
  exact k

theorem lok_le_dlk (cs : List Chg) (dir at_ d : Int) : ∀ k, lok cs dir d k ≤ dlk cs dir at_ d k
  | 0 => Int.le_refl _
  | k + 1 => by
    have ih := lok_le_dlk cs dir at_ d k
    unfold lok dlk
    by_cases h : (cs.getD k Chg.z).dir = dir
    · rw [if_pos h]
      split <;> split <;> omega
    · rw [if_neg h, if_neg (fun x => h x.2)]
      exact ih
theorem dlk_le_hik (cs : List Chg) (dir at_ d : Int) : ∀ k, dlk cs dir at_ d k ≤ hik cs dir d k
  | 0 => Int.le_refl _
  | k + 1 => by
    have ih := dlk_le_hik cs dir at_ d k
    unfold hik dlk
    by_cases h : (cs.getD k Chg.z).dir = dir
    · rw [if_pos h]
      split <;> split <;> omega
    · rw [if_neg h, if_neg (fun x => h x.2)]
      exact ih

/-- What holds of a valid link and a right message. -/
theorem within_facts {d0 d1 v0 v1 ls sd : Int} {cs : List Chg} {dir at_ m : Int} (hc : chk d0 d1 v0 v1 ls cs = 0) (hr : rt dir at_ m = true) :
    0 ≤ bLo d0 d1 v0 v1 ls cs dir ∧ bLo d0 d1 v0 v1 ls cs dir ≤ delayF d0 d1 v0 v1 ls cs dir at_ ∧
    delayF d0 d1 v0 v1 ls cs dir at_ + noiseF d0 d1 v0 v1 ls sd cs dir m ≤ bHi d0 d1 v0 v1 ls cs dir ∧ bHi d0 d1 v0 v1 ls cs dir ≤ 20000000000 ∧
    0 ≤ noiseF d0 d1 v0 v1 ls sd cs dir m ∧ noiseF d0 d1 v0 v1 ls sd cs dir m ≤ (if dir = 0 then v0 else v1) := by
  obtain ⟨h1, h2, h3⟩ := rt_iff.1 hr
  obtain ⟨hh, ha, _, _⟩ := chk_zero hc
  obtain ⟨b1, b2, b3, b4, _⟩ := hd_bounds hh
  have z1 : (0 : Int) ≤ 0 ∧ (0 : Int) ≤ 1125899906842624 := by decide
  have z2 : (0 : Int) ≤ 0 ∧ (0 : Int) ≤ 1099511627776 := by decide
  have g1 : vld d0 d1 v0 v1 ls cs dir 0 0 = true := vld_iff.2 ⟨hc, h1, z1, z2⟩
  have g2 : vld d0 d1 v0 v1 ls cs dir at_ 0 = true := vld_iff.2 ⟨hc, h1, h2, z2⟩
  have g3 : vld d0 d1 v0 v1 ls cs dir 0 m = true := vld_iff.2 ⟨hc, h1, z1, h3⟩
  obtain ⟨v, hv'⟩ : ∃ v, (if dir = 0 then v0 else v1) = v := ⟨_, rfl⟩
  obtain ⟨d, hd'⟩ : ∃ v, (if dir = 0 then d0 else d1) = v := ⟨_, rfl⟩
  have hd : 0 ≤ d ∧ d ≤ 10000000000 := by rw [← hd']; split <;> assumption
  have hv : 0 ≤ v ∧ v ≤ 10000000000 := by rw [← hv']; split <;> assumption
  have e1 : bLo d0 d1 v0 v1 ls cs dir = lok cs dir d cs.length := by unfold bLo; rw [if_pos g1, hd']
  have e2 : bHi d0 d1 v0 v1 ls cs dir = hik cs dir d cs.length + v := by unfold bHi; rw [if_pos g1, hd', hv']
  have e3 : delayF d0 d1 v0 v1 ls cs dir at_ = dlk cs dir at_ d cs.length := by unfold delayF; rw [if_pos g2, hd']
  have e4 : noiseF d0 d1 v0 v1 ls sd cs dir m = nz sd v dir m := by unfold noiseF; rw [if_pos g3, hv']
  rw [e1, e2, e3, e4, hv']
  have c1 := lok_bounds (dir := dir) ha hd cs.length (Nat.le_refl _)
  have c2 := hik_bounds (dir := dir) ha hd cs.length (Nat.le_refl _)
  have c3 := lok_le_dlk cs dir at_ d cs.length
  have c4 := dlk_le_hik cs dir at_ d cs.length
  have c5 := nz_bounds (sd := sd) (dir := dir) (m := m) hv
  clear e1 e2 e3 e4 g1 g2 g3 hc hr hh ha
  generalize lok cs dir d cs.length = L at *
  generalize hik cs dir d cs.length = U at *
  generalize dlk cs dir at_ d cs.length = D at *
  generalize nz sd v dir m = N at *
  exact ⟨c1.1, c3, Int.add_le_add c4 c5.2, Int.add_le_add c2.2 hv.2, c5.1, c5.2⟩
theorem arr_yes {d0 d1 v0 v1 ls sd : Int} {cs : List Chg} {dir at_ m : Int} (h : arrB d0 d1 v0 v1 ls sd cs dir at_ m = true) : arrT d0 d1 v0 v1 ls sd cs dir at_ m = at_ + delayF d0 d1 v0 v1 ls cs dir at_ + noiseF d0 d1 v0 v1 ls sd cs dir m := by
  unfold arrT; rw [if_pos h]
theorem arr_no {d0 d1 v0 v1 ls sd : Int} {cs : List Chg} {dir at_ m : Int} (h : arrB d0 d1 v0 v1 ls sd cs dir at_ m = false) : arrT d0 d1 v0 v1 ls sd cs dir at_ m = 0 := by
  unfold arrT; rw [h]; rfl
theorem arr_chk {d0 d1 v0 v1 ls sd : Int} {cs : List Chg} {dir at_ m : Int} (h : chk d0 d1 v0 v1 ls cs ≠ 0) : arrB d0 d1 v0 v1 ls sd cs dir at_ m = false := by
  unfold arrB vld; rw [decide_eq_false h]; rfl
theorem arr_lost {d0 d1 v0 v1 ls sd : Int} {cs : List Chg} {dir at_ m : Int} (hc : chk d0 d1 v0 v1 ls cs = 0) (hr : rt dir at_ m = true) : arrB d0 d1 v0 v1 ls sd cs dir at_ m = !lost sd ls dir m := by
  unfold arrB; rw [rt_vld hc hr]; rfl
theorem lost_pos {sd ls dir m : Int} (h : lost sd ls dir m = true) : 0 < ls := by
  unfold lost at h
  rw [decide_eq_true_iff] at h
  have := Int.emod_nonneg (mixI sd (4 * m + 2 * dir)) (show (1000 : Int) ≠ 0 by decide)
  omega
end Go.Proofs.Ytchmaecakjeceaa
