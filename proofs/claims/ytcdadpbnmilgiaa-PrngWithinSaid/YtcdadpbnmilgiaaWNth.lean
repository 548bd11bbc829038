/- PrngNth and PrngWithin return true, whatever the numbers. -/
import Derived.Test.YtcdadpbnmilgiaaW6
namespace Go.Proofs.Ytcdadpbnmilgiaa
open Go.RowKit PrngPure

theorem sc_nat (k : Nat) (h : k ≤ 1000) : sc k = ((k + 1 : Nat) : Int) := by
  unfold sc; rw [IntKind.wrap_u64]; omega

set_option maxHeartbeats 1000000 in
theorem prngNth_walk (a0 a1 : Int) (_w0 : (Lit.int .u64 a0).wf = true) (w1 : (Lit.int .u16 a1).wf = true) (w : World) :
    Calls Try.prog 4 #[.int .u64 a0, .int .u16 a1] w fun e w' => e = .returned (.bool true) ∧ Frm w w' NoB := by
  have hb1 := wf_u16 w1
  obtain ⟨m, hm⟩ : ∃ m : Nat, a1 % 300 = (m : Int) := ⟨(a1 % 300).toNat, by omega⟩
  have hm3 : m < 300 := by omega
  have h0 : 0 ≤ a1 := hb1.1
  clear hb1 w1 _w0
  go_enter Try.func4, Try.ntmps4
  go_wp2_with (go_at_call 14; refine (new_t _ _).mono ?_; rintro e w1 ⟨rfl, b1, f1⟩)
  go_loopw [15] (fun i wr => ∃ k : Nat, k ≤ m + 1 ∧ i = .int .u64 k ∧ Blk wr w.heap.size 53 #[.int .u64 a0, .int .u64 k] ∧ Frm w wr NoB) (fun i _ => m + 1 - (intOf i).toNat)
  case atStart => exact ⟨0, Nat.zero_le _, rfl, b1, f1⟩
  case round =>
    obtain ⟨k, hk, rfl, hb, hf⟩ := hrel
    clear b1 f1
    by_cases hlt : k < m + 1
    · have Hm := Lib.hid hm
      clear hm
      go_wp2_with (first
        | (go_at_call 15; refine (next_t _ _ _ _ hb).mono ?_; rintro e w2 ⟨rfl, b2, f2⟩)
        | (go_at_call 11; refine (mix_t _ _ _).mono ?_; rintro e w3 ⟨rfl, f3⟩))
      go_roundw
      case rel => exact ⟨k + 1, by omega, by go_num, by rw [← sc_nat k (by omega)]; exact b2.frm f3 (fun e => e), (hf.trans f2 (fun i hi e => by omega)).trans f3 (fun _ _ e => e)⟩
      case measure => simp [intOf]; omega
    · go_wp2_with (go_at_call 13; refine (awake_t _).mono ?_; rintro e w2 ⟨rfl, f2⟩)
      go_ret
      exact ⟨rfl, hf.trans f2 (fun _ _ e => e)⟩

theorem rng_eq1 (x lo sp : Int) (h : sp = 0) : rng x lo sp = wrap64 (IntKind.u64.wrap (IntKind.u64.wrap lo + x)) := by unfold rng; rw [if_pos h]
theorem rng_eq2 (x lo sp : Int) (h : ¬ sp = 0) : rng x lo sp = wrap64 (IntKind.u64.wrap (IntKind.u64.wrap lo + x % sp)) := by unfold rng; rw [if_neg h]


def spanI (lo hi : Int) : Int := IntKind.u64.wrap (IntKind.u64.wrap (IntKind.u64.wrap hi - IntKind.u64.wrap lo) + 1)

set_option maxHeartbeats 2000000 in
theorem prngWithin_walk (a0 a1 a2 a3 : Int) (_w0 : (Lit.int .u64 a0).wf = true) (w1 : (Lit.int .i64 a1).wf = true) (w2 : (Lit.int .i64 a2).wf = true) (w3 : (Lit.int .i64 a3).wf = true) (w : World) :
    Calls Try.prog 6 #[.int .u64 a0, .int .i64 a1, .int .i64 a2, .int .i64 a3] w fun e w' => e = .returned (.bool true) ∧ Frm w w' NoB := by
  have hb1 := wf_i64 w1
  have hb2 := wf_i64 w2
  have hb3 := wf_i64 w3
  clear w1 w2 w3 _w0
  have hbel : ∀ c, (bel (mixI a0 c) a1 == wrap64 (mixI a0 c % a1)) = true := fun c => by unfold bel; simp
  have p0 := mixI_nonneg a0 0
  have p1 := mixI_nonneg a0 (sc 0)
  have hun : Hid (rsp a2 a3 = IntKind.u64.wrap (IntKind.u64.wrap (IntKind.u64.wrap a3 - IntKind.u64.wrap a2) + 1)) := rfl
  by_cases h1 : 1 ≤ a1
  all_goals
    by_cases h2 : a3 < a2
    · go_enter Try.func6, Try.ntmps6
      go_wp2_with (first
        | (go_at_call 14; have _t : w = w := rfl; (with_reducible refine (new_t _ w).mono ?_); rintro e x1 ⟨rfl, b1, f1⟩)
        | (go_at_call 14; (with_reducible refine (new_t _ x1).mono ?_); rintro e x2 ⟨rfl, b2, f2⟩; have hD := duo_new _ _ _ _ _ b1 f1 b2 f2)
        | (go_at_call 16; (with_reducible refine (duo_below_yes hD _ (by omega) (by omega)).mono ?_); rintro e x3 ⟨rfl, hD⟩)
        | (go_at_call 16; (with_reducible refine (duo_below_no hD _ _ (by omega)).mono ?_); rintro e x3 ⟨rfl, hD⟩)
        | (go_at_call 17; (with_reducible refine (duo_range_no hD _ _ _ (by omega)).mono ?_); rintro e x3 ⟨rfl, hD⟩)
        | (go_at_call 15; (with_reducible refine (duo_next1 hD).mono ?_); rintro e x3 ⟨rfl, hD⟩)
        | (go_at_call 15; (with_reducible refine (duo_next2 hD).mono ?_); rintro e x3 ⟨rfl, hD⟩)
        | (go_at_call 13; (with_reducible refine (duo_awake hD).mono ?_); rintro e x3 ⟨rfl, hD⟩))
      go_ret
      exact ⟨rfl, hD.f⟩
    · have hr0 := rng_within (mixI a0 0) a2 a3 (by omega) (by omega) (by omega)
      have hr1 := rng_within (mixI a0 (sc 0)) a2 a3 (by omega) (by omega) (by omega)
      obtain ⟨q0, q0'⟩ := hr0
      obtain ⟨q1, q1'⟩ := hr1
      by_cases h3 : rsp a2 a3 = 0
      · have ht : (IntKind.u64.wrap (IntKind.u64.wrap (IntKind.u64.wrap a3 - IntKind.u64.wrap a2) + 1) != 0) = false := by rw [← hun.out, h3]; rfl
        have e0 : (rng (mixI a0 0) a2 (rsp a2 a3) == wrap64 (IntKind.u64.wrap (IntKind.u64.wrap a2 + mixI a0 0))) = true := beq_iff_eq.2 (rng_eq1 _ _ _ h3)
        have e1 : (rng (mixI a0 (sc 0)) a2 (rsp a2 a3) == wrap64 (IntKind.u64.wrap (IntKind.u64.wrap a2 + mixI a0 (sc 0)))) = true := beq_iff_eq.2 (rng_eq1 _ _ _ h3)
        clear h3
        go_enter Try.func6, Try.ntmps6
        go_wp2_with (first
          | (go_at_call 14; have _t : w = w := rfl; (with_reducible refine (new_t _ w).mono ?_); rintro e x1 ⟨rfl, b1, f1⟩)
          | (go_at_call 14; (with_reducible refine (new_t _ x1).mono ?_); rintro e x2 ⟨rfl, b2, f2⟩; have hD := duo_new _ _ _ _ _ b1 f1 b2 f2)
          | (go_at_call 16; (with_reducible refine (duo_below_yes hD _ (by omega) (by omega)).mono ?_); rintro e x3 ⟨rfl, hD⟩)
          | (go_at_call 16; (with_reducible refine (duo_below_no hD _ _ (by omega)).mono ?_); rintro e x3 ⟨rfl, hD⟩)
          | (go_at_call 17; (with_reducible refine (duo_range_yes hD _ _ (by omega)).mono ?_); rintro e x3 ⟨rfl, hD⟩)
          | (go_at_call 15; (with_reducible refine (duo_next1 hD).mono ?_); rintro e x3 ⟨rfl, hD⟩)
          | (go_at_call 15; (with_reducible refine (duo_next2 hD).mono ?_); rintro e x3 ⟨rfl, hD⟩)
          | (go_at_call 13; (with_reducible refine (duo_awake hD).mono ?_); rintro e x3 ⟨rfl, hD⟩))
        go_ret
        exact ⟨rfl, hD.f⟩
      · have hg := rsp_nonneg a2 a3
        have hp : 1 ≤ IntKind.u64.wrap (IntKind.u64.wrap (IntKind.u64.wrap a3 - IntKind.u64.wrap a2) + 1) := by rw [← hun.out]; omega
        have ht : (IntKind.u64.wrap (IntKind.u64.wrap (IntKind.u64.wrap a3 - IntKind.u64.wrap a2) + 1) != 0) = true := by rw [← hun.out, bne_iff_ne]; exact h3
        have e0 : (rng (mixI a0 0) a2 (rsp a2 a3) == wrap64 (IntKind.u64.wrap (IntKind.u64.wrap a2 + mixI a0 0 % IntKind.u64.wrap (IntKind.u64.wrap (IntKind.u64.wrap a3 - IntKind.u64.wrap a2) + 1)))) = true := beq_iff_eq.2 (rng_eq2 _ _ _ h3)
        have e1 : (rng (mixI a0 (sc 0)) a2 (rsp a2 a3) == wrap64 (IntKind.u64.wrap (IntKind.u64.wrap a2 + mixI a0 (sc 0) % IntKind.u64.wrap (IntKind.u64.wrap (IntKind.u64.wrap a3 - IntKind.u64.wrap a2) + 1)))) = true := beq_iff_eq.2 (rng_eq2 _ _ _ h3)
        clear h3
        go_enter Try.func6, Try.ntmps6
        go_wp2_with (first
          | (go_at_call 14; have _t : w = w := rfl; (with_reducible refine (new_t _ w).mono ?_); rintro e x1 ⟨rfl, b1, f1⟩)
          | (go_at_call 14; (with_reducible refine (new_t _ x1).mono ?_); rintro e x2 ⟨rfl, b2, f2⟩; have hD := duo_new _ _ _ _ _ b1 f1 b2 f2)
          | (go_at_call 16; (with_reducible refine (duo_below_yes hD _ (by omega) (by omega)).mono ?_); rintro e x3 ⟨rfl, hD⟩)
          | (go_at_call 16; (with_reducible refine (duo_below_no hD _ _ (by omega)).mono ?_); rintro e x3 ⟨rfl, hD⟩)
          | (go_at_call 17; (with_reducible refine (duo_range_yes hD _ _ (by omega)).mono ?_); rintro e x3 ⟨rfl, hD⟩)
          | (go_at_call 15; (with_reducible refine (duo_next1 hD).mono ?_); rintro e x3 ⟨rfl, hD⟩)
          | (go_at_call 15; (with_reducible refine (duo_next2 hD).mono ?_); rintro e x3 ⟨rfl, hD⟩)
          | (go_at_call 13; (with_reducible refine (duo_awake hD).mono ?_); rintro e x3 ⟨rfl, hD⟩))
        go_ret
        exact ⟨rfl, hD.f⟩
end Go.Proofs.Ytcdadpbnmilgiaa
