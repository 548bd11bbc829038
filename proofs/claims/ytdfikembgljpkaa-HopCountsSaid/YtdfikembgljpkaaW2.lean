/- What check of the reference and Backlog return. -/
import Derived.Test.YtdfikembgljpkaaW1
namespace Go.Proofs.Ytdfikembgljpkaa
open Go.RowKit

section
variable (A A2 : Option Addr) (n n2 c c2 B : Nat) (xs ys : List Int) (lim : Int) (w : World)
set_option maxHeartbeats 8000000 in
theorem rcheck_t (hX : LI w A n B xs) (hY : LI w A2 n2 B ys) :
    Calls Try.prog 26 #[.slice A n c, .slice A2 n2 c2, .int .i64 lim] w fun e w' => e = .returned (.int .i64 (chk xs ys lim)) ∧ Frm w w' NoB := by
  have hF : Frm w w NoB := Frm.refl w _
  have HX := Lib.hid hX.HN
  have HY := Lib.hid hY.HN
  by_cases hnn : n = n2
  · subst hnn
    by_cases hl : 512 < n
    · have Hres := Lib.hid (chk_long (lim := lim) (hX.HN.trans hY.HN.symm) (by rw [hX.HN]; exact hl))
      clear hX hY
      go_enter Try.func26, Try.ntmps26
      go_wp2
      go_ret
      exact ⟨by rw [Hres.out]; rfl, hF⟩
    · have Hl := Lib.hid (hX.HN.trans hY.HN.symm)
      have hA := hX.hA
      have hA2 := hY.hA
      have hBw := hX.hB
      clear hX hY
      go_enter Try.func26, Try.ntmps26
      go_wp2
      go_loopw [7] (fun i wr => ∃ k : Nat, k ≤ n ∧ i = .int .i64 k ∧ oks xs ys lim k ∧ w = wr) (fun i _ => n - (intOf i).toNat)
      case atStart => exact ⟨0, Nat.zero_le _, rfl, fun _ h => by omega, by trivial⟩
      case round =>
        obtain ⟨k, hk, rfl, hall, rfl⟩ := hrel
        have Hall := Lib.hid hall
        clear hall
        by_cases hlt : k < n
        · obtain ⟨b, o, rfl, _, hcell⟩ := hA.pos (by rw [HX.out]; omega)
          obtain ⟨b2, o2, rfl, _, hcell2⟩ := hA2.pos (by rw [HY.out]; omega)
          have q1 := hcell k (by rw [HX.out]; omega)
          have q2 := hcell2 k (by rw [HY.out]; omega)
          obtain ⟨x, hx⟩ : ∃ x, x = xs.getD k 0 := ⟨_, rfl⟩
          obtain ⟨y, hy⟩ : ∃ y, y = ys.getD k 0 := ⟨_, rfl⟩
          rw [← hx] at q1
          rw [← hy] at q2
          have HX1 := Lib.hid hx
          have HY1 := Lib.hid hy
          clear hx hy hcell hcell2 hA hA2
          have hk0 : (0 : Int) ≤ (k : Int) := Int.natCast_nonneg _
          have hk1 : (k : Int) < (n : Int) := by omega
          by_cases a0 : x < 0
          · have Hres := Lib.hid (chk_bad (lim := lim) Hl.out (by rw [HX.out]; exact hl) k (by rw [HX.out]; exact hlt) (by rw [← HX1.out, ← HY1.out]; omega))
            go_wp2
            go_ret
            exact ⟨by rw [Hres.out]; rfl, hF⟩
          by_cases a1 : lim < x
          · have Hres := Lib.hid (chk_bad (lim := lim) Hl.out (by rw [HX.out]; exact hl) k (by rw [HX.out]; exact hlt) (by rw [← HX1.out, ← HY1.out]; omega))
            go_wp2
            go_ret
            exact ⟨by rw [Hres.out]; rfl, hF⟩
          by_cases a2 : y < 0
          · have Hres := Lib.hid (chk_bad (lim := lim) Hl.out (by rw [HX.out]; exact hl) k (by rw [HX.out]; exact hlt) (by rw [← HX1.out, ← HY1.out]; omega))
            go_wp2
            go_ret
            exact ⟨by rw [Hres.out]; rfl, hF⟩
          by_cases a3 : 10000000000 < y
          · have Hres := Lib.hid (chk_bad (lim := lim) Hl.out (by rw [HX.out]; exact hl) k (by rw [HX.out]; exact hlt) (by rw [← HX1.out, ← HY1.out]; omega))
            go_wp2
            go_ret
            exact ⟨by rw [Hres.out]; rfl, hF⟩
          have He := Lib.hid (oks_succ Hall.out (by rw [← HX1.out, ← HY1.out]; omega))
          go_wp2
          go_roundw
          case rel => exact ⟨k + 1, by omega, by go_num, He.out, by trivial⟩
          case measure => simp [intOf]; omega
        · have hkn : k = n := by omega
          have Ha := Lib.hid (show oks xs ys lim xs.length from fun j hj => Hall.out j (by rw [HX.out] at hj; omega))
          clear hkn Hall
          go_wp2
          go_loopw [8] (fun i wr => ∃ k : Nat, 1 ≤ k ∧ (k ≤ n ∨ k = 1) ∧ i = .int .i64 k ∧ srt xs k ∧ Frm w wr NoB) (fun i _ => n - (intOf i).toNat)
          case atStart => exact ⟨1, Nat.le_refl _, .inr rfl, rfl, fun _ h => by omega, hF⟩
          case round =>
            obtain ⟨k, hk1, hk, rfl, hall, hF2⟩ := hrel
            have Hall := Lib.hid hall
            clear hall
            by_cases hlt : k < n
            · have hA' := hA.frm0 hF2 hBw
              obtain ⟨b, o, rfl, _, hcell⟩ := hA'.pos (by rw [HX.out]; omega)
              obtain ⟨j, rfl⟩ : ∃ j, k = j + 1 := ⟨k - 1, by omega⟩
              have q1 := hcell (j + 1) (by rw [HX.out]; omega)
              have q2 := hcell j (by rw [HX.out]; omega)
              obtain ⟨x, hx⟩ : ∃ x, x = xs.getD (j + 1) 0 := ⟨_, rfl⟩
              obtain ⟨y, hy⟩ : ∃ y, y = xs.getD j 0 := ⟨_, rfl⟩
              rw [← hx] at q1
              rw [← hy] at q2
              have HX1 := Lib.hid hx
              have HY1 := Lib.hid hy
              clear hx hy hcell hA hA2 hA'
              have hj0 : (0 : Int) ≤ ((j + 1 : Nat) : Int) := Int.natCast_nonneg _
              have hj1 : ((j + 1 : Nat) : Int) < (n : Int) := by omega
              by_cases hxy : x < y
              · have Hres := Lib.hid (chk_ord Hl.out (by rw [HX.out]; exact hl) Ha.out j (by rw [HX.out]; exact hlt) (by rw [← HX1.out, ← HY1.out]; exact hxy))
                go_wp2
                go_quiet (fail)
                go_wp2
                go_ret
                exact ⟨by rw [Hres.out]; rfl, hF2.drewN _⟩
              · have He := Lib.hid (srt_succ Hall.out (by rw [← HX1.out, ← HY1.out]; omega))
                go_wp2
                go_quiet (fail)
                go_wp2
                go_roundw
                case rel => exact ⟨j + 1 + 1, by omega, by omega, by go_num, He.out, hF2.drewN _⟩
                case measure => simp [intOf]; omega
            · have Hres := Lib.hid (chk_ok Hl.out (by rw [HX.out]; exact hl) Ha.out (fun j hj => Hall.out j (by rw [HX.out] at hj; omega)))
              clear hA hA2
              go_wp2
              go_ret
              exact ⟨by rw [Hres.out]; rfl, hF2⟩
  · have Hres := Lib.hid (chk_arg (xs := xs) (ys := ys) (lim := lim) (by rw [hX.HN, hY.HN]; exact hnn))
    have hb : ((n : Int) == (n2 : Int)) = false := beq_eq_false_iff_ne.2 (by omega)
    have hb2 : ((n : Int) != (n2 : Int)) = true := by rw [bne, hb]; rfl
    clear hX hY
    go_enter Try.func26, Try.ntmps26
    go_wp2
    go_ret
    exact ⟨by rw [Hres.out]; rfl, hF⟩
end

/-- How many of the first k messages have arrived and not departed. -/
def blg (xs ys : List Int) (t : Int) : Nat → Nat
  | 0 => 0
  | k + 1 => blg xs ys t k + (if xs.getD k 0 ≤ t ∧ t < ys.getD k 0 then 1 else 0)
theorem blg_le (xs ys : List Int) (t : Int) : ∀ k, blg xs ys t k ≤ k
  | 0 => Nat.le_refl _
  | k + 1 => by
    have := blg_le xs ys t k
    unfold blg
    split <;> omega

section
variable (A A2 : Option Addr) (n n2 c c2 B : Nat) (xs ys : List Int) (lim : Int) (w : World)
set_option maxHeartbeats 8000000 in
theorem backlog_t (hX : LI w A n B xs) (hY : LI w A2 n2 B ys) :
    Calls Try.prog 20 #[.slice A n c, .slice A2 n2 c2, .int .i64 lim] w fun e w' => e = .returned (.int .i64 (blg xs ys lim (min n n2) : Nat)) ∧ Frm w w' NoB := by
  have hF : Frm w w NoB := Frm.refl w _
  have HX := Lib.hid hX.HN
  have HY := Lib.hid hY.HN
  have hA := hX.hA
  have hA2 := hY.hA
  have hn := hX.hn
  have hn2 := hY.hn
  clear hX hY
  by_cases hc : (n2 : Int) < (n : Int)
  · rw [show min n n2 = n2 from by omega]
    go_enter Try.func20, Try.ntmps20
    go_wp2
    go_loopw [14, 7, 8] (fun i s _ wr => ∃ k : Nat, k ≤ n2 ∧ i = .int .i64 k ∧ s = .int .i64 (blg xs ys lim k : Nat) ∧ w = wr) (fun i _ _ _ => n2 - (intOf i).toNat)
    case atStart => exact ⟨0, Nat.zero_le _, rfl, rfl, by trivial⟩
    case round =>
      obtain ⟨k, hk, rfl, rfl, rfl⟩ := hrel
      by_cases hlt : k < n2
      · obtain ⟨b, o, rfl, _, hcell⟩ := hA.pos (by rw [HX.out]; omega); obtain ⟨b2, o2, rfl, _, hcell2⟩ := hA2.pos (by rw [HY.out]; omega); have q1 := hcell k (by rw [HX.out]; omega); have q2 := hcell2 k (by rw [HY.out]; omega); have hs : blg xs ys lim (k + 1) = blg xs ys lim k + (if xs.getD k 0 ≤ lim ∧ lim < ys.getD k 0 then 1 else 0) := rfl; obtain ⟨x, hx⟩ : ∃ x, x = xs.getD k 0 := ⟨_, rfl⟩; obtain ⟨y, hy⟩ : ∃ y, y = ys.getD k 0 := ⟨_, rfl⟩; rw [← hx] at q1 hs; rw [← hy] at q2 hs; clear hx hy hcell hcell2 hA hA2; have hb0 := blg_le xs ys lim k; obtain ⟨S, hS⟩ : ∃ S, S = blg xs ys lim k := ⟨_, rfl⟩; rw [← hS] at hs hb0 ⊢; clear hS; have hk0 : (0 : Int) ≤ (k : Int) := Int.natCast_nonneg _; have hk1 : (k : Int) < (n : Int) := (by omega); have hk2 : (k : Int) < (n2 : Int) := (by omega)
        by_cases h1 : x ≤ lim
        · by_cases h2 : lim < y
          · have Hs := Lib.hid (hs.trans (by rw [if_pos ⟨h1, h2⟩]))
            clear hs
            go_wp2
            go_roundw
            case rel => exact ⟨k + 1, by omega, by go_num, by rw [Hs.out]; go_num, by trivial⟩
            case measure => simp [intOf]; omega
          · have Hs := Lib.hid (hs.trans (by rw [if_neg (fun h => h2 h.2)]))
            clear hs
            go_wp2
            go_roundw
            case rel => exact ⟨k + 1, by omega, by go_num, by rw [Hs.out, Nat.add_zero], by trivial⟩
            case measure => simp [intOf]; omega
        · have Hs := Lib.hid (hs.trans (by rw [if_neg (fun h => h1 h.1)]))
          clear hs
          go_wp2
          go_roundw
          case rel => exact ⟨k + 1, by omega, by go_num, by rw [Hs.out, Nat.add_zero], by trivial⟩
          case measure => simp [intOf]; omega
      · have hkn : k = n2 := by omega
        have HK := Lib.hid hkn
        clear hkn
        go_wp2
        go_ret
        exact ⟨by rw [HK.out]; rfl, hF⟩
  · rw [show min n n2 = n from by omega]
    go_enter Try.func20, Try.ntmps20
    go_wp2
    go_loopw [14, 7, 8] (fun i s _ wr => ∃ k : Nat, k ≤ n ∧ i = .int .i64 k ∧ s = .int .i64 (blg xs ys lim k : Nat) ∧ w = wr) (fun i _ _ _ => n - (intOf i).toNat)
    case atStart => exact ⟨0, Nat.zero_le _, rfl, rfl, by trivial⟩
    case round =>
      obtain ⟨k, hk, rfl, rfl, rfl⟩ := hrel
      by_cases hlt : k < n
      · obtain ⟨b, o, rfl, _, hcell⟩ := hA.pos (by rw [HX.out]; omega); obtain ⟨b2, o2, rfl, _, hcell2⟩ := hA2.pos (by rw [HY.out]; omega); have q1 := hcell k (by rw [HX.out]; omega); have q2 := hcell2 k (by rw [HY.out]; omega); have hs : blg xs ys lim (k + 1) = blg xs ys lim k + (if xs.getD k 0 ≤ lim ∧ lim < ys.getD k 0 then 1 else 0) := rfl; obtain ⟨x, hx⟩ : ∃ x, x = xs.getD k 0 := ⟨_, rfl⟩; obtain ⟨y, hy⟩ : ∃ y, y = ys.getD k 0 := ⟨_, rfl⟩; rw [← hx] at q1 hs; rw [← hy] at q2 hs; clear hx hy hcell hcell2 hA hA2; have hb0 := blg_le xs ys lim k; obtain ⟨S, hS⟩ : ∃ S, S = blg xs ys lim k := ⟨_, rfl⟩; rw [← hS] at hs hb0 ⊢; clear hS; have hk0 : (0 : Int) ≤ (k : Int) := Int.natCast_nonneg _; have hk1 : (k : Int) < (n : Int) := (by omega); have hk2 : (k : Int) < (n2 : Int) := (by omega)
        by_cases h1 : x ≤ lim
        · by_cases h2 : lim < y
          · have Hs := Lib.hid (hs.trans (by rw [if_pos ⟨h1, h2⟩]))
            clear hs
            go_wp2
            go_roundw
            case rel => exact ⟨k + 1, by omega, by go_num, by rw [Hs.out]; go_num, by trivial⟩
            case measure => simp [intOf]; omega
          · have Hs := Lib.hid (hs.trans (by rw [if_neg (fun h => h2 h.2)]))
            clear hs
            go_wp2
            go_roundw
            case rel => exact ⟨k + 1, by omega, by go_num, by rw [Hs.out, Nat.add_zero], by trivial⟩
            case measure => simp [intOf]; omega
        · have Hs := Lib.hid (hs.trans (by rw [if_neg (fun h => h1 h.1)]))
          clear hs
          go_wp2
          go_roundw
          case rel => exact ⟨k + 1, by omega, by go_num, by rw [Hs.out, Nat.add_zero], by trivial⟩
          case measure => simp [intOf]; omega
      · have hkn : k = n := by omega
        have HK := Lib.hid hkn
        clear hkn
        go_wp2
        go_ret
        exact ⟨by rw [HK.out]; rfl, hF⟩
end

end Go.Proofs.Ytdfikembgljpkaa
