/- What pass of the reference returns. -/
import Derived.Test.YtdfikembgljpkaaW3
import Derived.OwnWalk
import Derived.Laws.OwnMore
namespace Go.Proofs.Ytdfikembgljpkaa
open Go.RowKit

/-- When the first k messages have left. -/
def mx (x l : Int) : Int := if x < l then l else x
def dl (xs ys : List Int) : Nat → Int
  | 0 => 0
  | k + 1 => mx (xs.getD k 0) (dl xs ys k) + ys.getD k 0
def deps (xs ys : List Int) (k : Nat) : List Int := (List.range k).map (fun j => dl xs ys (j + 1))
theorem deps_len (xs ys : List Int) (k : Nat) : (deps xs ys k).length = k := by simp [deps]
theorem deps_succ (xs ys : List Int) (k : Nat) : deps xs ys (k + 1) = deps xs ys k ++ [dl xs ys (k + 1)] := by simp [deps, List.range_succ]
/-- No departure is too great. -/
def fits (xs ys : List Int) (n : Nat) : Prop := ∀ k, k < n → IntKind.i64.wrap (mx (xs.getD k 0) (dl xs ys k) + ys.getD k 0) = mx (xs.getD k 0) (dl xs ys k) + ys.getD k 0

abbrev OwnI (w : World) (B : Nat) (v : Value) (n : Nat) (ks : List Int) : Prop := w.ownsRow B 3 1 v n (ks.map (Value.int .i64))
theorem Frm.grown {w w' w'' : World} {S : Nat → Prop} {row : Option Nat} (h : Frm w w' S) (hg : w'.grownBy w'' row) (hr : ∀ k, row = some k → k < w.heap.size → S k) : Frm w w'' S := by
  refine ⟨hg.os.trans h.os, hg.tape.trans h.tape, hg.output.trans h.output, Nat.le_trans h.size hg.size, fun i hi hs => ?_⟩
  rw [hg.block i (Nat.lt_of_lt_of_le hi h.size) (fun e => hs (hr i e.symm hi))]
  exact h.block i hi hs
theorem OwnI.li {w : World} {B n : Nat} {v : Value} {ks : List Int} (h : OwnI w B v n ks) (hn : n ≤ 17592186044416) : ∃ A c, v = .slice A n c ∧ LI w A n w.heap.size ks := by
  have hl : ks.length = n := by have := h.1; simpa using this
  rcases h.2 with ⟨rfl, rfl⟩ | ⟨g, cap, cur, rfl, hb, hg, hle, hcap, hsz, htk⟩
  · exact ⟨none, 0, rfl, ⟨hn, hl, .inl (List.length_eq_zero_iff.1 hl), Nat.le_refl _⟩⟩
  · have hlt : g < w.heap.size := by
      rcases Nat.lt_or_ge g w.heap.size with h | h
      · exact h
      · rw [Array.getElem?_eq_none h] at hg; cases hg
    refine ⟨_, cap, rfl, ⟨hn, hl, .inr ⟨g, 0, rfl, hlt, fun j hj => ?_⟩, Nat.le_refl _⟩⟩
    rw [Nat.zero_add, h.cellAt j (by omega)]
    simp [List.getD, List.getElem?_eq_getElem hj]

section
variable (A A2 : Option Addr) (n c c2 B : Nat) (xs ys : List Int) (w : World)
set_option maxHeartbeats 8000000 in
theorem rpass_t (hX : LI w A n B xs) (hY : LI w A2 n B ys) (hn : n ≤ 512) (hw : fits xs ys n) :
    Calls Try.prog 27 #[.slice A n c, .slice A2 n c2] w fun e w' => ∃ v, e = .returned v ∧ OwnI w' w.heap.size v n (deps xs ys n) ∧ Frm w w' NoB := by
  have hF : Frm w w NoB := Frm.refl w _
  have HX := Lib.hid hX.HN
  have HY := Lib.hid hY.HN
  have hA := hX.hA
  have hA2 := hY.hA
  have hBw := hX.hB
  have HW := Lib.hid hw
  clear hX hY hw
  obtain ⟨i0, hi, hz0, hz1, hz2⟩ := info_parts int_info
  go_enter Try.func27, Try.ntmps27
  go_wp2
  go_loopw [5, 6, 7] (fun v s i wr => ∃ k : Nat, k ≤ n ∧ i = .int .i64 k ∧ s = .int .i64 (dl xs ys k) ∧ OwnI wr w.heap.size v k (deps xs ys k) ∧ Frm w wr NoB) (fun _ _ i _ => n - (intOf i).toNat)
  case atStart => exact ⟨0, Nat.zero_le _, rfl, rfl, World.ownsRow_nil _ _ _ _, hF⟩
  case round =>
    clear hF
    obtain ⟨k, hk, rfl, rfl, hown, hF⟩ := hrel
    by_cases hlt : k < n
    · have hA' := hA.frm0 hF hBw
      have hA2' := hA2.frm0 hF hBw
      obtain ⟨b, o, rfl, _, hcell⟩ := hA'.pos (by rw [HX.out]; omega)
      obtain ⟨b2, o2, rfl, _, hcell2⟩ := hA2'.pos (by rw [HY.out]; omega)
      have q1 := hcell k (by rw [HX.out]; omega)
      have q2 := hcell2 k (by rw [HY.out]; omega)
      have hs : dl xs ys (k + 1) = mx (xs.getD k 0) (dl xs ys k) + ys.getD k 0 := rfl
      have hwr := HW.out k hlt
      obtain ⟨x, hx⟩ : ∃ x, x = xs.getD k 0 := ⟨_, rfl⟩
      obtain ⟨y, hy⟩ : ∃ y, y = ys.getD k 0 := ⟨_, rfl⟩
      obtain ⟨l, hl⟩ : ∃ l, l = dl xs ys k := ⟨_, rfl⟩
      rw [← hx] at q1 hs hwr
      rw [← hy] at q2 hs hwr
      rw [← hl] at hs hwr ⊢
      unfold mx at hs hwr
      rw [← hs] at hwr
      have Hs := Lib.hid hs
      obtain ⟨D, hD⟩ : ∃ D, D = dl xs ys (k + 1) := ⟨_, rfl⟩
      rw [← hD] at hs hwr
      have HD := Lib.hid hD
      clear hx hy hl hcell hcell2 hA hA2 hA' hA2' hD Hs
      have hk0 : (0 : Int) ≤ (k : Int) := Int.natCast_nonneg _
      have hk1 : (k : Int) < (n : Int) := by omega
      have hsz := hF.size
      by_cases hxl : x < l
      · rw [if_pos hxl] at hs
        have hs2 := hs.symm
        clear hs
        (go_wp2_with fail; go_region; have hown2 : OwnI wr.drew w.heap.size u5 k (deps xs ys k) := hown; replace hF := hF.drew; have hsz2 : w.heap.size ≤ wr.drew.heap.size := hsz; (obtain ⟨w2, hw2⟩ : ∃ w2, w2 = wr.drew := ⟨_, rfl⟩); rw [← hw2] at hF hown2 hsz2 ⊢; clear hw2 hown hsz hxl q1 q2; go_wp2_with (first | (at_builtin; refine wpList_append_own _ rfl _ _ 22 rfl w.heap.size 3 i0 (.int .i64 0) 1 8 Try.underlying22 hi hz0 hz1 hz2 rfl (by decide) _ _ _ rfl (hown2.alloc _) ⟨w2.heap.size, 0, none⟩ 1 1 [.int .i64 D] rfl rfl ?c1 ?c2 ?c3 ?c4 ?c5 ?_) | go_in); (case c1 => (intro j u hj; match j, hj with | 0, hj => (simp at hj; subst hj; simp [Addr.add]))); (case c2 => (intro u hu; simp at hu; subst hu; rfl)); (case c3 => (unfold maxLen; omega)); (case c4 => omega); (case c5 => (simp; omega)); intro v' w1 hown' hgrow _; have hown3 : OwnI w1 w.heap.size v' (k + 1) (deps xs ys (k + 1)) := (by rw [deps_succ, ← HD.out]; simpa [OwnI] using hown'); have hF3 := (hF.alloc (.cells #[.int .i64 D] 3)).grown hgrow (fun j hj hlt => absurd (hown2.lt j hj).1 (by omega)); clear hown' hgrow hown2 hF; go_wp2; go_roundw; (case rel => exact ⟨k + 1, by omega, by go_num, by rw [← HD.out], hown3, hF3⟩); (case measure => (simp [intOf]; omega)))
      · rw [if_neg hxl] at hs
        have hs2 := hs.symm
        clear hs
        (go_wp2_with fail; go_region; have hown2 : OwnI wr.drew w.heap.size u5 k (deps xs ys k) := hown; replace hF := hF.drew; have hsz2 : w.heap.size ≤ wr.drew.heap.size := hsz; (obtain ⟨w2, hw2⟩ : ∃ w2, w2 = wr.drew := ⟨_, rfl⟩); rw [← hw2] at hF hown2 hsz2 ⊢; clear hw2 hown hsz hxl q1 q2; go_wp2_with (first | (at_builtin; refine wpList_append_own _ rfl _ _ 22 rfl w.heap.size 3 i0 (.int .i64 0) 1 8 Try.underlying22 hi hz0 hz1 hz2 rfl (by decide) _ _ _ rfl (hown2.alloc _) ⟨w2.heap.size, 0, none⟩ 1 1 [.int .i64 D] rfl rfl ?c1 ?c2 ?c3 ?c4 ?c5 ?_) | go_in); (case c1 => (intro j u hj; match j, hj with | 0, hj => (simp at hj; subst hj; simp [Addr.add]))); (case c2 => (intro u hu; simp at hu; subst hu; rfl)); (case c3 => (unfold maxLen; omega)); (case c4 => omega); (case c5 => (simp; omega)); intro v' w1 hown' hgrow _; have hown3 : OwnI w1 w.heap.size v' (k + 1) (deps xs ys (k + 1)) := (by rw [deps_succ, ← HD.out]; simpa [OwnI] using hown'); have hF3 := (hF.alloc (.cells #[.int .i64 D] 3)).grown hgrow (fun j hj hlt => absurd (hown2.lt j hj).1 (by omega)); clear hown' hgrow hown2 hF; go_wp2; go_roundw; (case rel => exact ⟨k + 1, by omega, by go_num, by rw [← HD.out], hown3, hF3⟩); (case measure => (simp [intOf]; omega)))
    · have hkn : k = n := by omega
      subst hkn
      clear hA hA2
      go_wp2
      go_ret
      exact ⟨_, rfl, hown, hF⟩
end
end Go.Proofs.Ytdfikembgljpkaa
