/- What check of the program and of the reference return. -/
import Derived.Test.YtdfikembgljpkaaInts
namespace Go.Proofs.Ytdfikembgljpkaa
open Go.RowKit

/-- A slice of n ints that reads as xs, in memory below block B. -/
structure LI (w : World) (A : Option Addr) (n B : Nat) (xs : List Int) : Prop where
  hn : n ≤ 17592186044416
  HN : xs.length = n
  hA : RdI w B A xs
  hB : B ≤ w.heap.size
theorem LI.frm {w w' : World} {A : Option Addr} {n B : Nat} {xs : List Int} (h : LI w A n B xs) (f : Frm w w' NoB) : LI w' A n B xs :=
  ⟨h.hn, h.HN, h.hA.frm0 f h.hB, Nat.le_trans h.hB f.size⟩
theorem LI.alloc {w : World} {A : Option Addr} {n B : Nat} {xs : List Int} (h : LI w A n B xs) (o : Obj) : LI (w.alloc o) A n B xs := h.frm ((Frm.refl _ _).alloc o)
theorem LI.drew {w : World} {A : Option Addr} {n B : Nat} {xs : List Int} (h : LI w A n B xs) : LI w.drew A n B xs := h.frm ((Frm.refl _ _).drew)

/-- The places at which arrivals and services are in range; in order. -/
def oks (xs ys : List Int) (lim : Int) (k : Nat) : Prop := ∀ j, j < k → 0 ≤ xs.getD j 0 ∧ xs.getD j 0 ≤ lim ∧ 0 ≤ ys.getD j 0 ∧ ys.getD j 0 ≤ 10000000000
def srt (xs : List Int) (k : Nat) : Prop := ∀ j, j + 1 < k → xs.getD j 0 ≤ xs.getD (j + 1) 0
open Classical in
/-- What check returns. -/
noncomputable def chk (xs ys : List Int) (lim : Int) : Int :=
  if xs.length ≠ ys.length then 2 else if 512 < xs.length then 6 else if ¬ oks xs ys lim xs.length then 3 else if srt xs xs.length then 0 else 12
theorem chk_arg {xs ys : List Int} {lim : Int} (h : xs.length ≠ ys.length) : chk xs ys lim = 2 := by unfold chk; rw [if_pos h]
theorem chk_long {xs ys : List Int} {lim : Int} (h : xs.length = ys.length) (h1 : 512 < xs.length) : chk xs ys lim = 6 := by unfold chk; rw [if_neg (fun c => c h), if_pos h1]
theorem chk_bad {xs ys : List Int} {lim : Int} (h : xs.length = ys.length) (h1 : ¬ 512 < xs.length) (k : Nat) (hk : k < xs.length)
    (e : ¬ (0 ≤ xs.getD k 0 ∧ xs.getD k 0 ≤ lim ∧ 0 ≤ ys.getD k 0 ∧ ys.getD k 0 ≤ 10000000000)) : chk xs ys lim = 3 := by
  unfold chk; rw [if_neg (fun c => c h), if_neg h1, if_pos (fun c => e (c k hk))]
theorem chk_ord {xs ys : List Int} {lim : Int} (h : xs.length = ys.length) (h1 : ¬ 512 < xs.length) (h2 : oks xs ys lim xs.length) (k : Nat) (hk : k + 1 < xs.length) (e : xs.getD (k + 1) 0 < xs.getD k 0) : chk xs ys lim = 12 := by
  unfold chk; rw [if_neg (fun c => c h), if_neg h1, if_neg (fun c => c h2), if_neg (fun c => by have := c k hk; omega)]
theorem chk_ok {xs ys : List Int} {lim : Int} (h : xs.length = ys.length) (h1 : ¬ 512 < xs.length) (h2 : oks xs ys lim xs.length) (h3 : srt xs xs.length) : chk xs ys lim = 0 := by
  unfold chk; rw [if_neg (fun c => c h), if_neg h1, if_neg (fun c => c h2), if_pos h3]
theorem chk_zero {xs ys : List Int} {lim : Int} (h : chk xs ys lim = 0) : xs.length = ys.length ∧ xs.length ≤ 512 ∧ oks xs ys lim xs.length ∧ srt xs xs.length := by
  unfold chk at h
  split at h
  · cases h
  · rename_i h1
    split at h
    · cases h
    · rename_i h2
      split at h
      · cases h
      · rename_i h3
        split at h
        · rename_i h4
          exact ⟨Classical.not_not.1 h1, by omega, Classical.not_not.1 h3, h4⟩
        · cases h
theorem oks_succ {xs ys : List Int} {lim : Int} {k : Nat} (h : oks xs ys lim k) (e : 0 ≤ xs.getD k 0 ∧ xs.getD k 0 ≤ lim ∧ 0 ≤ ys.getD k 0 ∧ ys.getD k 0 ≤ 10000000000) : oks xs ys lim (k + 1) := fun j hj => by
  rcases Nat.lt_or_ge j k with h' | h'
  · exact h j h'
  · obtain rfl : j = k := by omega
    exact e
theorem srt_succ {xs : List Int} {k : Nat} (h : srt xs (k + 1)) (e : xs.getD k 0 ≤ xs.getD (k + 1) 0) : srt xs (k + 2) := fun j hj => by
  rcases Nat.lt_or_ge j k with h' | h'
  · exact h j (by omega)
  · obtain rfl : j = k := by omega
    exact e

section
variable (A A2 : Option Addr) (n n2 c c2 B : Nat) (xs ys : List Int) (lim : Int) (w : World)
set_option maxHeartbeats 8000000 in
theorem check_t (hX : LI w A n B xs) (hY : LI w A2 n2 B ys) :
    Calls Try.prog 24 #[.slice A n c, .slice A2 n2 c2, .int .i64 lim] w fun e w' => e = .returned (.int .i64 (chk xs ys lim)) ∧ Frm w w' NoB := by
  have hF : Frm w w NoB := Frm.refl w _
  have HX := Lib.hid hX.HN
  have HY := Lib.hid hY.HN
  by_cases hnn : n = n2
  · subst hnn
    by_cases hl : 512 < n
    · have Hres := Lib.hid (chk_long (lim := lim) (hX.HN.trans hY.HN.symm) (by rw [hX.HN]; exact hl))
      clear hX hY
      go_enter Try.func24, Try.ntmps24
      go_wp2
      go_ret
      exact ⟨by rw [Hres.out]; rfl, hF⟩
    · have Hl := Lib.hid (hX.HN.trans hY.HN.symm)
      have hA := hX.hA
      have hA2 := hY.hA
      clear hX hY
      go_enter Try.func24, Try.ntmps24
      go_wp2
      go_loopw [21, 7, 8] (fun i _ _ wr => ∃ k : Nat, k ≤ n ∧ i = .int .i64 k ∧ oks xs ys lim k ∧ w = wr) (fun i _ _ _ => n - (intOf i).toNat)
      case atStart => exact ⟨0, Nat.zero_le _, rfl, fun _ h => by omega, by trivial⟩
      case round =>
        obtain ⟨k, hk, rfl, hall, rfl⟩ := hrel
        have Hall := Lib.hid hall
        clear hall
        by_cases hlt : k < n
        · obtain ⟨b, o, rfl, _, hcell⟩ := hA.pos (by rw [HX.out]; omega)
          obtain ⟨b2, o2, rfl, _, hcell2⟩ := hA2.pos (by rw [HY.out]; omega)
          have q1 := hcell k (by rw [HX.out]; omega)
          have q2 := hcell2 k (by rw [HY.out]; omega)
          obtain ⟨x, hx⟩ : ∃ x, x = xs.getD k 0 := ⟨_, rfl⟩
          obtain ⟨y, hy⟩ : ∃ y, y = ys.getD k 0 := ⟨_, rfl⟩
          rw [← hx] at q1
          rw [← hy] at q2
          have HX1 := Lib.hid hx
          have HY1 := Lib.hid hy
          clear hx hy hcell hcell2 hA hA2
          have hk0 : (0 : Int) ≤ (k : Int) := Int.natCast_nonneg _
          have hk1 : (k : Int) < (n : Int) := by omega
          by_cases a0 : x < 0
          · have Hres := Lib.hid (chk_bad (lim := lim) Hl.out (by rw [HX.out]; exact hl) k (by rw [HX.out]; exact hlt) (by rw [← HX1.out, ← HY1.out]; omega))
            go_wp2
            go_ret
            exact ⟨by rw [Hres.out]; rfl, hF⟩
          by_cases a1 : lim < x
          · have Hres := Lib.hid (chk_bad (lim := lim) Hl.out (by rw [HX.out]; exact hl) k (by rw [HX.out]; exact hlt) (by rw [← HX1.out, ← HY1.out]; omega))
            go_wp2
            go_ret
            exact ⟨by rw [Hres.out]; rfl, hF⟩
          by_cases a2 : y < 0
          · have Hres := Lib.hid (chk_bad (lim := lim) Hl.out (by rw [HX.out]; exact hl) k (by rw [HX.out]; exact hlt) (by rw [← HX1.out, ← HY1.out]; omega))
            go_wp2
            go_ret
            exact ⟨by rw [Hres.out]; rfl, hF⟩
          by_cases a3 : 10000000000 < y
          · have Hres := Lib.hid (chk_bad (lim := lim) Hl.out (by rw [HX.out]; exact hl) k (by rw [HX.out]; exact hlt) (by rw [← HX1.out, ← HY1.out]; omega))
            go_wp2
            go_ret
            exact ⟨by rw [Hres.out]; rfl, hF⟩
          have He := Lib.hid (oks_succ Hall.out (by rw [← HX1.out, ← HY1.out]; omega))
          go_wp2
          go_roundw
          case rel => exact ⟨k + 1, by omega, by go_num, He.out, by trivial⟩
          case measure => simp [intOf]; omega
        · have hkn : k = n := by omega
          have Ha := Lib.hid (show oks xs ys lim xs.length from fun j hj => Hall.out j (by rw [HX.out] at hj; omega))
          clear hkn Hall
          go_wp2
          go_loopw [50, 9, 10] (fun i _ _ wr => ∃ k : Nat, k ≤ n ∧ i = .int .i64 k ∧ srt xs k ∧ w = wr) (fun i _ _ _ => n - (intOf i).toNat)
          case atStart => exact ⟨0, Nat.zero_le _, rfl, fun _ h => by omega, by trivial⟩
          case round =>
            obtain ⟨k, hk, rfl, hall, rfl⟩ := hrel
            have Hall := Lib.hid hall
            clear hall
            by_cases hlt : k < n
            · obtain ⟨b, o, rfl, _, hcell⟩ := hA.pos (by rw [HX.out]; omega)
              have q1 := hcell k (by rw [HX.out]; omega)
              obtain ⟨x, hx⟩ : ∃ x, x = xs.getD k 0 := ⟨_, rfl⟩
              rw [← hx] at q1
              have HX1 := Lib.hid hx
              clear hx
              have hk0 : (0 : Int) ≤ (k : Int) := Int.natCast_nonneg _
              have hk1 : (k : Int) < (n : Int) := by omega
              rcases Nat.eq_zero_or_pos k with hp | hp
              · clear hcell
                have hz0 : ¬ (0 : Int) < (k : Int) := by omega
                have HP0 := Lib.hid hp
                clear hp
                go_wp2
                go_roundw
                case rel => exact ⟨k + 1, by omega, by go_num, fun j hj => by have := HP0.out; omega, by trivial⟩
                case measure => simp [intOf]; omega
              · obtain ⟨j, rfl⟩ : ∃ j, k = j + 1 := ⟨k - 1, by omega⟩
                have q2 := hcell j (by rw [HX.out]; omega)
                obtain ⟨y, hy⟩ : ∃ y, y = xs.getD j 0 := ⟨_, rfl⟩
                rw [← hy] at q2
                have HY1 := Lib.hid hy
                clear hy hcell hA hA2
                have hz0 : (0 : Int) < ((j + 1 : Nat) : Int) := by omega
                by_cases hxy : x < y
                · have Hres := Lib.hid (chk_ord Hl.out (by rw [HX.out]; exact hl) Ha.out j (by rw [HX.out]; exact hlt) (by rw [← HX1.out, ← HY1.out]; exact hxy))
                  go_wp2
                  go_ret
                  exact ⟨by rw [Hres.out]; rfl, hF⟩
                · have He := Lib.hid (srt_succ Hall.out (by rw [← HX1.out, ← HY1.out]; omega))
                  go_wp2
                  go_roundw
                  case rel => exact ⟨j + 1 + 1, by omega, by go_num, He.out, by trivial⟩
                  case measure => simp [intOf]; omega
            · have Hres := Lib.hid (chk_ok Hl.out (by rw [HX.out]; exact hl) Ha.out (fun j hj => Hall.out j (by rw [HX.out] at hj; omega)))
              clear hA hA2
              go_wp2
              go_ret
              exact ⟨by rw [Hres.out]; rfl, hF⟩
  · have Hres := Lib.hid (chk_arg (xs := xs) (ys := ys) (lim := lim) (by rw [hX.HN, hY.HN]; exact hnn))
    have hb : ((n : Int) == (n2 : Int)) = false := beq_eq_false_iff_ne.2 (by omega)
    have hb2 : ((n : Int) != (n2 : Int)) = true := by rw [bne, hb]; rfl
    clear hX hY
    go_enter Try.func24, Try.ntmps24
    go_wp2
    go_ret
    exact ⟨by rw [Hres.out]; rfl, hF⟩
end
end Go.Proofs.Ytdfikembgljpkaa
