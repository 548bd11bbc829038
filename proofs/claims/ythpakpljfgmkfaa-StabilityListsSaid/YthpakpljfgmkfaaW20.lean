/- line: the list of a statement. -/
import Derived.Test.YthpakpljfgmkfaaW19
namespace Go.Proofs.Ythpakpljfgmkfaa
open Go.RowKit

abbrev OwnI (w : World) (B : Nat) (v : Value) (n : Nat) (ks : List Int) : Prop := w.ownsRow B 3 1 v n (ks.map (Value.int .i64))
theorem Frm.grown {w w' w'' : World} {S : Nat → Prop} {row : Option Nat} (h : Frm w w' S) (hg : w'.grownBy w'' row) (hr : ∀ k, row = some k → k < w.heap.size → S k) : Frm w w'' S :=
  ⟨hg.os.trans h.os, hg.tape.trans h.tape, hg.output.trans h.output, Nat.le_trans h.size hg.size, fun i hi hn => (hg.block i (Nat.lt_of_lt_of_le hi h.size) (fun e => hn (hr i e.symm hi))).trans (h.block i hi hn)⟩
theorem OwnI.li {w : World} {B n : Nat} {v : Value} {ks : List Int} (h : OwnI w B v n ks) (hn : n ≤ 17592186044416) : ∃ A c, v = .slice A n c ∧ n ≤ c ∧ LI w A n w.heap.size ks := by
  have hl : ks.length = n := by have := h.1; simpa using this
  rcases h.2 with ⟨rfl, rfl⟩ | ⟨g, cap, cur, rfl, hb, hg, hle, hcap, hsz, htk⟩
  · exact ⟨none, 0, rfl, Nat.le_refl _, ⟨hn, hl, .inl (List.length_eq_zero_iff.1 hl), Nat.le_refl _⟩⟩
  · have hlt : g < w.heap.size := by
      rcases Nat.lt_or_ge g w.heap.size with h | h
      · exact h
      · rw [Array.getElem?_eq_none h] at hg; cases hg
    refine ⟨_, cap, rfl, hle, ⟨hn, hl, .inr ⟨g, 0, rfl, hlt, fun j hj => ?_⟩, Nat.le_refl _⟩⟩
    rw [Nat.zero_add, h.cellAt j (by omega)]
    simp [List.getD, List.getElem?_eq_getElem hj]

/-- A slice of n int32 that reads as xs. -/
structure LX (w : World) (A : Option Addr) (n B : Nat) (xs : List Int) : Prop where
  HN : xs.length = n
  hA : xs = [] ∨ ∃ b o, A = some ⟨b, o, none⟩ ∧ b < B ∧ ∀ j, j < xs.length → w.cell? ⟨b, o + j, none⟩ = some (.int .i32 (xs.getD j 0)) ∧ -2147483648 ≤ xs.getD j 0 ∧ xs.getD j 0 ≤ 2147483647
  hB : B ≤ w.heap.size
theorem LX.frm {w w' : World} {A : Option Addr} {n B : Nat} {xs : List Int} (h : LX w A n B xs) (f : Frm w w' NoB) : LX w' A n B xs :=
  ⟨h.HN, by
    rcases h.hA with e | ⟨b, o, e, hb, hc⟩
    · exact .inl e
    · exact .inr ⟨b, o, e, hb, fun j hj => ⟨(f.cell (p := ⟨b, o + j, none⟩) (Nat.lt_of_lt_of_le hb h.hB) (fun h => h)).trans (hc j hj).1, (hc j hj).2⟩⟩, Nat.le_trans h.hB f.size⟩
theorem LX.pos {w : World} {A : Option Addr} {n B : Nat} {xs : List Int} (h : LX w A n B xs) (hp : 0 < n) : ∃ b o, A = some ⟨b, o, none⟩ ∧ b < B ∧ ∀ j, j < n → w.cell? ⟨b, o + j, none⟩ = some (.int .i32 (xs.getD j 0)) ∧ -2147483648 ≤ xs.getD j 0 ∧ xs.getD j 0 ≤ 2147483647 := by
  have hn := h.HN
  rcases h.hA with e | ⟨b, o, e, hb, hc⟩
  · subst e; simp at hn; omega
  · exact ⟨b, o, e, hb, fun j hj => hc j (by omega)⟩
/-- The first k elements of line. -/
def lnL (xs : List Int) (a b : Int) (k : Nat) : List Int := (List.range k).map fun i => xs.getD i 0 + a + b * (i : Int)
theorem lnL_len (xs : List Int) (a b : Int) (k : Nat) : (lnL xs a b k).length = k := by simp [lnL]
theorem lnL_succ (xs : List Int) (a b : Int) (k : Nat) : lnL xs a b (k + 1) = lnL xs a b k ++ [xs.getD k 0 + a + b * (k : Int)] := by simp [lnL, List.range_succ]
theorem lnL_get (xs : List Int) (a b : Int) (k j : Nat) (h : j < k) : (lnL xs a b k).getD j 0 = xs.getD j 0 + a + b * (j : Int) := by simp [lnL, List.getD, List.getElem?_range h]
theorem sl22 (A : Option Addr) (n c N : Nat) (hN : N ≤ n) (hc : n ≤ c) : ∃ A1,
    (∀ w, (Instr.sliceAt 22 (.slice A n c) none (some (.int .i64 (N : Int))) none).run Try.prog w = .ok (.slice A1 N c) w) ∧ ∀ b o, 0 < N → A = some ⟨b, o, none⟩ → A1 = some ⟨b, o, none⟩ := by
  have hu : Try.prog.underlying 22 = some (.slice (Try.prog.elem 22)) := by kernel_rfl
  have hs : ∀ w, (sizeOf (Try.prog.elem 22)).run Try.prog w = .ok 1 w := fun w => by kernel_rfl
  refine ⟨if c = 0 then A else A.map (·.add (0 * 1)), fun w => ?_, fun b o h e => ?_⟩
  · rw [run_sliceAt_slice _ _ _ _ _ _ hu, run_slice_h _ _ _ _ _ hu .i64 (N : Int) (by omega) (by omega), hs]
    simp [Result.andThen, sliced]
  · subst e
    rw [if_neg (by omega)]
    simp [Addr.add]
set_option maxHeartbeats 8000000 in
theorem line_t (A : Option Addr) (n c N B : Nat) (xs : List Int) (a b : Int) (w : World) (hX : LX w A n B xs) (hc : n ≤ c) (hN : N = min n 1000) (ha : -2147483648 ≤ a ∧ a ≤ 2147483647) (hb : -32768 ≤ b ∧ b ≤ 32767) :
    Calls Try.prog 12 #[.slice A n c, .int .i64 a, .int .i64 b] w fun e w' => ∃ A' c', e = .returned (.slice A' N c') ∧ N ≤ c' ∧ LI w' A' N w'.heap.size (lnL xs a b N) ∧ Frm w w' NoB := by
  have hN0 : (if (1000 : Int) < (n : Int) then (1000 : Int) else (n : Int)) = (N : Int) := by split <;> omega
  have hN1 : N ≤ n := by omega
  have hN2 : N ≤ 1000 := by omega
  obtain ⟨A1, sl, hA1⟩ := sl22 A n c N hN1 hc
  obtain ⟨i0, hi, hz0, hz1, hz2⟩ := info_parts int_info
  have hF : Frm w w NoB := Frm.refl w _
  clear hN
  go_enter Try.func12, Try.ntmps12
  go_wp2
  go_loopw [7, 8, 9, 16] (fun v _ _ i wr => ∃ k : Nat, k ≤ N ∧ i = .int .i64 k ∧ OwnI wr w.heap.size v k (lnL xs a b k) ∧ Frm w wr NoB) (fun _ _ _ i _ => N - (intOf i).toNat)
  case atStart => exact ⟨0, Nat.zero_le _, rfl, World.ownsRow_nil _ _ _ _, hF⟩
  case round =>
    clear hF
    obtain ⟨k, hk, rfl, hown, hF⟩ := hrel
    by_cases hlt : k < N
    · obtain ⟨bb, o, rfl, hbb, hcell⟩ := (hX.frm hF).pos (by omega)
      obtain rfl := hA1 bb o (by omega) rfl
      obtain ⟨q1, r1, r2⟩ := hcell k (by omega)
      have hsu := lnL_succ xs a b k
      obtain ⟨x, hx⟩ : ∃ x, x = xs.getD k 0 := ⟨_, rfl⟩
      rw [← hx] at q1 r1 r2 hsu
      have hPb : -32768000 ≤ b * (k : Int) ∧ b * (k : Int) ≤ 32768000 := by
        have h1 : (b * (k : Int)).natAbs = b.natAbs * k := by rw [Int.natAbs_mul, Int.natAbs_natCast]
        have h2 : b.natAbs * k ≤ 32768 * 1000 := Nat.mul_le_mul (by omega) (by omega)
        omega
      obtain ⟨P, hP⟩ : ∃ P, P = b * (k : Int) := ⟨_, rfl⟩
      rw [← hP] at hPb hsu
      have t0 : IntKind.i64.wrap x = x := IntWalk.i64_in _ (by omega)
      have t1 : IntKind.i64.wrap (x + a) = x + a := IntWalk.i64_in _ (by omega)
      have t2 : IntKind.i64.wrap (b * (k : Int)) = P := by rw [← hP]; exact IntWalk.i64_in _ (by omega)
      have t3 : IntKind.i64.wrap (x + a + P) = x + a + P := IntWalk.i64_in _ (by omega)
      obtain ⟨V, hV⟩ : ∃ V, V = x + a + P := ⟨_, rfl⟩
      rw [← hV] at hsu
      replace t3 : IntKind.i64.wrap (x + a + P) = V := t3.trans hV.symm
      have HS := Lib.hid hsu
      have hk0 : (0 : Int) ≤ (k : Int) := Int.natCast_nonneg _
      have hk1 : (k : Int) < (N : Int) := by omega
      have hsz := hF.size
      clear hcell hsu hx hP hPb hV hX r1 r2 ha hb hA1
      go_wp2_with (first
        | (at_builtin; refine wpList_append_own _ rfl _ _ 23 rfl w.heap.size 3 i0 (.int .i64 0) 1 8 Try.underlying23 hi hz0 hz1 hz2 rfl (by decide) _ _ _ rfl (hown.alloc _) ⟨wr.heap.size, 0, none⟩ 1 1 [.int .i64 V] rfl rfl ?c1 ?c2 ?c3 ?c4 ?c5 ?_)
        | go_in)
      case c1 => intro j u hj; match j, hj with | 0, hj => (simp at hj; subst hj; simp [Addr.add])
      case c2 => intro u hu; simp at hu; subst hu; rfl
      case c3 => unfold maxLen; omega
      case c4 => omega
      case c5 => simp; omega
      intro v' w1 hown' hgrow _
      have hown3 : OwnI w1 w.heap.size v' (k + 1) (lnL xs a b (k + 1)) := by rw [HS.out]; simpa [OwnI] using hown'
      have hF3 := (hF.alloc (.cells #[.int .i64 V] 3)).grown hgrow (fun j hj hlt => absurd (hown.lt j hj).1 (by omega))
      clear hown' hgrow hown hF
      go_wp2
      go_roundw
      case rel => exact ⟨k + 1, by omega, by go_num, hown3, hF3⟩
      case measure => simp [intOf]; omega
    · have hkn : k = N := by omega
      rw [hkn] at hown
      obtain ⟨A', c', rfl, hcc, hl⟩ := hown.li (by omega)
      clear hkn hX
      go_wp2
      go_ret
      exact ⟨A', c', rfl, hcc, hl, hF⟩
end Go.Proofs.Ythpakpljfgmkfaa
