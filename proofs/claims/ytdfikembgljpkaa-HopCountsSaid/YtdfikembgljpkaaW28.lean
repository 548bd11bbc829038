/- Chain of the reference. -/
import Derived.Test.YtdfikembgljpkaaW27
import Derived.Laws.AppendOwnNone
namespace Go.Proofs.Ytdfikembgljpkaa
open Go.RowKit

theorem LI.same {w : World} {A : Option Addr} {n B : Nat} {xs ys : List Int} (h : LI w A n B xs) (e : xs = ys) : LI w A ys.length B ys := by
  subst e
  rw [h.HN]; exact h
theorem LI.nil (w : World) : LI w none 0 w.heap.size [] := ⟨Nat.zero_le _, rfl, .inl rfl, Nat.le_refl _⟩
section
variable {A S : Option Addr} {n m c d B B2 : Nat} {xs ps : List Int} {ss : List (List Int)} {e0 : Int} {w : World}
theorem LS.more {B' : Nat} (h : LS w S m B ss) (h1 : B ≤ B') (h2 : B' ≤ w.heap.size) : LS w S m B' ss :=
  ⟨h.hn, h.HN, fun hp => by
    obtain ⟨b, o, e, hb, hc⟩ := h.hA hp
    exact ⟨b, o, e, by omega, fun j hj => by
      obtain ⟨Aj, cj, q1, q2⟩ := hc j hj
      exact ⟨Aj, cj, q1, q2.more h1 h2⟩⟩, h2⟩
theorem LS.up (h : LS w S m B ss) : LS w S m w.heap.size ss := h.more h.hB (Nat.le_refl _)
/-- Chain of the program. -/
theorem chain_s (HE : Hid (chE xs ss = e0)) (HV : Hid (chV xs ss = ps)) (hX : LI w A n B xs) (hS : LS w S m B2 ss) :
    Calls Try.prog 22 #[.slice A n c, .slice S m d] w fun e w' => ∃ A' c', e = .returned (.tuple #[.slice A' ps.length c', .int .i64 e0]) ∧ LI w' A' ps.length w'.heap.size ps ∧ Frm w w' NoB := by
  have hm := hS.HN
  by_cases h1 : 16 < m
  · have he : e0 = 6 := by rw [← HE.out]; unfold chE; rw [if_pos (by omega)]
    have hp : ps = [] := by rw [← HV.out]; unfold chV; rw [HE.out, he, if_neg (by decide)]
    subst he hp
    refine (chain_many A S n m c d w h1).mono ?_
    rintro e w' ⟨rfl, f⟩
    exact ⟨none, 0, rfl, LI.nil _, f⟩
  · by_cases h2 : m = 0
    · subst h2
      have he : e0 = chk xs (zs n) 1125899906842624 := by rw [← HE.out, ← hX.HN]; unfold chE; rw [if_neg (by omega), if_pos hm]
      have hp : ps = pV xs (zs n) := by rw [← HV.out, ← hX.HN]; exact chV_none ss hm
      subst he hp
      refine (chain_none A S n c d w.heap.size xs w hX.up).mono ?_
      rintro e w' ⟨v, rfl, ho, f⟩
      obtain ⟨A', c', rfl, hl⟩ := ho.li (by have := pV_le xs (zs n); omega)
      exact ⟨A', c', rfl, hl, f⟩
    · have he : e0 = ferr big xs ss m := by rw [← HE.out, ← hm]; unfold chE; rw [if_neg (by omega), if_neg (by omega)]
      have hp : ps = if ferr big xs ss m = 0 then arrk xs ss m else [] := by rw [← HV.out]; unfold chV; rw [HE.out, he, hm]
      refine (chain_in A S n m c d w.heap.size xs ss w hX.up hS.up (by omega) (by omega)).mono ?_
      rintro e w' ⟨v, rfl, ⟨A', n', c', B', rfl, hl⟩, f⟩
      rw [← hp] at hl
      obtain rfl := hl.HN
      exact ⟨A', c', by rw [he], hl.up, f⟩
end

theorem RdI.none_nil {w : World} {B : Nat} {xs : List Int} (h : RdI w B none xs) : xs = [] := by
  rcases h with h | ⟨b, o, h, _⟩
  · exact h
  · cases h
theorem LI.cells {w : World} {ad : Addr} {n B : Nat} {xs : List Int} (h : LI w (some ad) n B xs) : ∀ j u, (xs.map (Value.int .i64))[j]? = some u → w.cell? (ad.add j) = some u := by
  intro j u hu
  have hj : j < xs.length := by
    have := (List.getElem?_eq_some_iff.1 hu).1
    simpa using this
  obtain ⟨b, o, e, _, hc⟩ := h.hA.pos (by omega)
  obtain rfl : ad = ⟨b, o, none⟩ := by simpa using e
  rw [Go.WideShapes.add_plain, hc j hj]
  simpa [List.getD, List.getElem?_eq_getElem hj] using hu
theorem ownE (w : World) (B : Nat) (hB : B ≤ w.heap.size) : (w.alloc (.cells #[] 3)).ownsRow B 3 1 (.slice (some ⟨w.heap.size, 0, none⟩) 0 0) 0 [] :=
  ⟨rfl, .inr ⟨w.heap.size, 0, #[], rfl, hB, heap_alloc_new w _, Nat.le_refl _, Nat.zero_le _, rfl, rfl⟩⟩
/-- The greatest arrival that the reference asks of the later hops. -/
abbrev big2 : Int := 2251799813685248
/-- A value that reads as what the reference's Chain returns. -/
def ChR2 (w : World) (xs : List Int) (ss : List (List Int)) (m : Nat) (v : Value) : Prop :=
  ∃ A n c B, v = .slice A n c ∧ LI w A n B (if ferr big2 xs ss m = 0 then arrk xs ss m else [])
section
variable (A S : Option Addr) (n m c d B : Nat) (xs : List Int) (ss : List (List Int)) (w : World)
set_option maxHeartbeats 4000000 in
theorem rchain_many (hm : 16 < m) :
    Calls Try.prog 23 #[.slice A n c, .slice S m d] w fun e w' => e = .returned (.tuple #[.slice none 0 0, .int .i64 6]) ∧ Frm w w' NoB := by
  go_enter Try.func23, Try.ntmps23
  go_wp2
  go_ret2
  exact ⟨rfl, Frm.refl _ _⟩
set_option maxHeartbeats 4000000 in
theorem rchain_bad (hX : LI w A n B xs) (e0 : Int) (HE : Hid (chk xs (zs n) 1125899906842624 = e0)) (h0 : e0 ≠ 0) :
    Calls Try.prog 23 #[.slice A n c, .slice S 0 d] w fun e w' => e = .returned (.tuple #[.slice none 0 0, .int .i64 e0]) ∧ Frm w w' NoB := by
  have hmk := make_ints n hX.hn
  have hF : Frm w (w.alloc (.cells (cel (List.replicate n 0)) 3)) NoB := (Frm.refl w _).alloc _
  have hX1 := (hX.alloc (.cells (cel (List.replicate n 0)) 3)).more (B' := w.heap.size + 1) (by have := hX.hB; omega) (by simp)
  have hZ : LI (w.alloc (.cells (cel (List.replicate n 0)) 3)) (some ⟨w.heap.size, 0, none⟩) n (w.heap.size + 1) (zs n) :=
    ⟨hX.hn, by simp [zs], RdI.of_blk (t := 3) (Blk.new _ _ _), by simp⟩
  have hb : (e0 != 0) = true := by rw [bne_iff_ne]; exact h0
  clear h0
  go_enter Try.func23, Try.ntmps23
  go_wp2_with (first | (go_at_call 26; (with_reducible refine (rcheck_b HE hX1 hZ).mono ?_); rintro e x1 ⟨rfl, f1⟩))
  go_ret2
  exact ⟨rfl, hF.trans f1 (fun _ _ e => e)⟩

set_option maxHeartbeats 8000000 in
theorem rchain_in (hX : LI w A n B xs) (hn : n ≤ 600) (hS : LS w S m B ss) (hm0 : 0 < m) (hm : m ≤ 16) (hc0 : A = none → c = 0) :
    Calls Try.prog 23 #[.slice A n c, .slice S m d] w fun e w' => ∃ v, e = .returned (.tuple #[v, .int .i64 (ferr big2 xs ss m)]) ∧ ChR2 w' xs ss m v ∧ Frm w w' NoB := by
  have hmk := make_ints n hX.hn
  have hF : Frm w (w.alloc (.cells (cel (List.replicate n 0)) 3)) NoB := (Frm.refl w _).alloc _
  have hX1 := (hX.alloc (.cells (cel (List.replicate n 0)) 3)).more (B' := w.heap.size + 1) (by have := hX.hB; omega) (by simp)
  have hZ : LI (w.alloc (.cells (cel (List.replicate n 0)) 3)) (some ⟨w.heap.size, 0, none⟩) n (w.heap.size + 1) (zs n) :=
    ⟨hX.hn, by simp [zs], RdI.of_blk (t := 3) (Blk.new _ _ _), by simp⟩
  have hm1 : ((m : Int) == 0) = false := beq_eq_false_iff_ne.2 (by omega)
  obtain ⟨e0, he0⟩ : ∃ e, chk xs (zs n) 1125899906842624 = e := ⟨_, rfl⟩
  have HE := Lib.hid he0
  clear he0
  have HX := Lib.hid hX.HN
  obtain ⟨i0, hi, hz0, hz1, hz2⟩ := info_parts int_info
  cases A with
  | none =>
    obtain rfl : c = 0 := hc0 rfl
    have hx0 : xs = [] := hX.hA.none_nil
    have hn0 : n = 0 := by rw [← hX.HN, hx0]; rfl
    subst hn0
    have hmk0 : ∀ w, (Instr.makeSlice 22 (.int .i64 0) (.int .i64 0)).run Try.prog w = .ok (.slice (some ⟨w.heap.size, 0, none⟩) 0 0) (w.alloc (.cells (cel []) 3)) := make_ints 0 (by decide)
    have hF0 : Frm w (w.alloc (.cells (cel []) 3)) NoB := hF
    have hX0 : LI (w.alloc (.cells (cel []) 3)) none 0 (w.heap.size + 1) xs := hX1
    have hZ0 : LI (w.alloc (.cells (cel []) 3)) (some ⟨w.heap.size, 0, none⟩) 0 (w.heap.size + 1) (zs 0) := hZ
    clear hX hc0 hmk hF hX1 hZ
    go_enter Try.func23, Try.ntmps23
    go_wp2_with (first
      | (go_at_call 26; (with_reducible refine (rcheck_b HE hX0 hZ0).mono ?_); rintro e x1 ⟨rfl, f1⟩; have hF1 := hF0.trans f1 (fun _ _ h => h); have hownE := ownE x1 w.heap.size hF1.size; have hF3 := hF1.alloc (.cells #[] 3); have hx1s := hF1.size)
      | (at_builtin; refine wpList_append_own_none rfl _ _ 22 rfl w.heap.size 3 i0 1 Try.underlying22 hi _ 0 [] rfl hownE rfl ?_))
    have hN0 : LI (x1.alloc (.cells #[] 3)) (some ⟨x1.heap.size, 0, none⟩) 0 (x1.alloc (.cells #[] 3)).heap.size xs := ⟨Nat.zero_le _, HX.out, .inl hx0, Nat.le_refl _⟩
    clear hownE hx0
    go_wp2
    go_loopw [7, 8, 9, 10] (fun v lat i _ wr => ∃ k : Nat, k ≤ m ∧ i = .int .i64 k ∧ Hid (goodk big2 xs ss k) ∧ lat = .int .i64 (latk big2 k) ∧ (∃ A' c' B', v = .slice A' 0 c' ∧ LI wr A' 0 B' (arrk xs ss k)) ∧ Frm w wr NoB) (fun _ _ i _ _ => m - (intOf i).toNat)
    case atStart => exact ⟨0, Nat.zero_le _, rfl, fun _ h => by omega, rfl, ⟨_, _, _, rfl, hN0⟩, hF3⟩
    case round =>
      clear hF3 hN0
      obtain ⟨k, hk, rfl, HG, rfl, ⟨Aq, cq, Bq, rfl, hX⟩, hF⟩ := hrel
      by_cases hlt : k < m
      · obtain ⟨b, o, rfl, hbB, hc⟩ := (hS.frm hF).hA hm0
        have hbw : b < wr.heap.size := by have := (hS.frm hF).hB; omega
        obtain ⟨Aj, cj, q1, hJ⟩ := hc k hlt
        obtain ⟨nj, hnj⟩ : ∃ nj, nj = (ss.getD k []).length := ⟨_, rfl⟩
        rw [← hnj] at q1 hJ
        obtain ⟨L, hL⟩ : ∃ L, L = latk big2 k := ⟨_, rfl⟩
        rw [← hL]
        obtain ⟨e0, he⟩ : ∃ e, errk big2 xs ss k = e := ⟨_, rfl⟩
        have HE : Hid (chk (arrk xs ss k) (ss.getD k []) L = e0) := by rw [hL]; exact he
        have hk0 : (0 : Int) ≤ (k : Int) := Int.natCast_nonneg _
        have hk1 : (k : Int) < (m : Int) := by omega
        by_cases h0 : e0 = 0
        · subst h0
          obtain ⟨f1, f2, f3⟩ := hop_fits HG.out he (by omega)
          have e1 : nj = 0 := by rw [hnj, ← f1, arrk_len]; exact HX.out
          rw [e1] at q1 hJ
          rw [arrk_len, HX.out] at f3
          rw [HX.out] at f2
          have Hn := Lib.hid f2
          have HF := Lib.hid f3
          have HG2 := Lib.hid (goodk_succ HG.out he)
          have HD : Hid (arrk xs ss (k + 1) = deps (arrk xs ss k) (ss.getD k []) 0) := by unfold Hid; rw [arrk, arrk_len, HX.out]
          clear he hL hnj e1 f1 f2 f3 hc
          replace hX := hX.more (B' := wr.heap.size) hX.hB (Nat.le_refl _)
          replace hJ := hJ.more (B' := wr.heap.size) hJ.hB (Nat.le_refl _)
          go_wp2_with (first
            | (go_at_call 26; (with_reducible refine (rcheck_b HE hX hJ).mono ?_); rintro e x1 ⟨rfl, f1⟩; replace hX := hX.frm f1; replace hJ := hJ.frm f1; replace hF := hF.trans f1 (fun _ _ e => e); have q2 := (f1.cell (p := ⟨b, o + k, none⟩) hbw (fun h => h)).trans q1)
            | (go_at_call 27; ((with_reducible refine (rpass_t Aq Aj 0 cq cj _ _ _ _ hX hJ Hn.out HF.out).mono ?_); rintro e x2 ⟨v, rfl, ho, f2⟩; obtain ⟨An, cn, rfl, hN⟩ := ho.li (by have := Hn.out; omega))))
          rw [← HD.out] at hN
          go_roundw
          case rel => exact ⟨k + 1, by omega, by go_num, HG2.out, rfl, ⟨_, _, _, rfl, hN⟩, hF.trans f2 (fun _ _ e => e)⟩
          case measure => simp [intOf]; omega
        · have hb : (e0 != 0) = true := by rw [bne_iff_ne]; exact h0
          have HR := Lib.hid (ferr_bad HG.out (by rw [he]; exact h0) hlt)
          have HZ := Lib.hid h0
          have HQ := Lib.hid he
          clear he hL hnj hc h0
          replace hX := hX.more (B' := wr.heap.size) hX.hB (Nat.le_refl _)
          replace hJ := hJ.more (B' := wr.heap.size) hJ.hB (Nat.le_refl _)
          go_wp2_with (first
            | (go_at_call 26; (with_reducible refine (rcheck_b HE hX hJ).mono ?_); rintro e x1 ⟨rfl, f1⟩; replace hF := hF.trans f1 (fun _ _ e => e)))
          go_ret2
          have hR2 := HR.out.trans HQ.out
          exact ⟨_, by rw [hR2]; rfl, ⟨none, 0, 0, 0, rfl, by rw [hR2, if_neg HZ.out]; exact ⟨Nat.zero_le _, rfl, .inl rfl, Nat.zero_le _⟩⟩, hF⟩
      · have hkm : k = m := by omega
        subst hkm
        have HR := Lib.hid (ferr_good k HG.out)
        go_wp2
        go_ret2
        exact ⟨_, by rw [HR.out]; rfl, ⟨_, _, _, _, rfl, by rw [HR.out, if_pos rfl]; exact hX⟩, hF⟩
  | some ad =>
    clear hX hc0
    go_enter Try.func23, Try.ntmps23
    go_wp2_with (first
      | (go_at_call 26; (with_reducible refine (rcheck_b HE hX1 hZ).mono ?_); rintro e x1 ⟨rfl, f1⟩; have hcl := (hX1.frm f1).alloc (.cells #[] 3) |>.cells; have hF1 := hF.trans f1 (fun _ _ h => h); have hownE := ownE x1 w.heap.size hF1.size; have hF2 := hF1.alloc (.cells #[] 3); have hx1s := hF1.size)
      | (at_builtin; refine wpList_append_own _ rfl _ _ 22 rfl w.heap.size 3 i0 (.int .i64 0) 1 8 Try.underlying22 hi hz0 hz1 hz2 rfl (by decide) _ 0 [] rfl hownE ad n c (xs.map (Value.int .i64)) rfl ?c0 hcl ?c2 ?c3 ?c4 ?c5 ?_))
    case c0 => simp; exact HX.out
    case c2 => intro u hu; simp at hu; obtain ⟨a, _, rfl⟩ := hu; rfl
    case c3 => unfold maxLen; omega
    case c4 => omega
    case c5 => simp; omega
    intro v' w1 hown' hgrow _
    have hown3 : OwnI w1 w.heap.size v' n xs := by simpa [OwnI] using hown'
    have hF3 := hF2.grown hgrow (fun j hj hlt => absurd (hownE.lt j hj).1 (by omega))
    obtain ⟨A2, c2, rfl, hN0⟩ := hown3.li (by omega)
    clear hown' hgrow hownE hcl
    go_wp2
    go_loopw [7, 8, 9, 10] (fun v lat i _ wr => ∃ k : Nat, k ≤ m ∧ i = .int .i64 k ∧ Hid (goodk big2 xs ss k) ∧ lat = .int .i64 (latk big2 k) ∧ (∃ A' c' B', v = .slice A' n c' ∧ LI wr A' n B' (arrk xs ss k)) ∧ Frm w wr NoB) (fun _ _ i _ _ => m - (intOf i).toNat)
    case atStart => exact ⟨0, Nat.zero_le _, rfl, fun _ h => by omega, rfl, ⟨_, _, _, rfl, hN0⟩, hF3⟩
    case round =>
      clear hF3 hN0
      obtain ⟨k, hk, rfl, HG, rfl, ⟨Aq, cq, Bq, rfl, hX⟩, hF⟩ := hrel
      by_cases hlt : k < m
      · obtain ⟨b, o, rfl, hbB, hc⟩ := (hS.frm hF).hA hm0
        have hbw : b < wr.heap.size := by have := (hS.frm hF).hB; omega
        obtain ⟨Aj, cj, q1, hJ⟩ := hc k hlt
        obtain ⟨nj, hnj⟩ : ∃ nj, nj = (ss.getD k []).length := ⟨_, rfl⟩
        rw [← hnj] at q1 hJ
        obtain ⟨L, hL⟩ : ∃ L, L = latk big2 k := ⟨_, rfl⟩
        rw [← hL]
        obtain ⟨e0, he⟩ : ∃ e, errk big2 xs ss k = e := ⟨_, rfl⟩
        have HE : Hid (chk (arrk xs ss k) (ss.getD k []) L = e0) := by rw [hL]; exact he
        have hk0 : (0 : Int) ≤ (k : Int) := Int.natCast_nonneg _
        have hk1 : (k : Int) < (m : Int) := by omega
        by_cases h0 : e0 = 0
        · subst h0
          obtain ⟨f1, f2, f3⟩ := hop_fits HG.out he (by omega)
          have e1 : nj = n := by rw [hnj, ← f1, arrk_len]; exact HX.out
          rw [e1] at q1 hJ
          rw [arrk_len, HX.out] at f3
          rw [HX.out] at f2
          have Hn := Lib.hid f2
          have HF := Lib.hid f3
          have HG2 := Lib.hid (goodk_succ HG.out he)
          have HD : Hid (arrk xs ss (k + 1) = deps (arrk xs ss k) (ss.getD k []) n) := by unfold Hid; rw [arrk, arrk_len, HX.out]
          clear he hL hnj e1 f1 f2 f3 hc
          replace hX := hX.more (B' := wr.heap.size) hX.hB (Nat.le_refl _)
          replace hJ := hJ.more (B' := wr.heap.size) hJ.hB (Nat.le_refl _)
          go_wp2_with (first
            | (go_at_call 26; (with_reducible refine (rcheck_b HE hX hJ).mono ?_); rintro e x1 ⟨rfl, f1⟩; replace hX := hX.frm f1; replace hJ := hJ.frm f1; replace hF := hF.trans f1 (fun _ _ e => e); have q2 := (f1.cell (p := ⟨b, o + k, none⟩) hbw (fun h => h)).trans q1)
            | (go_at_call 27; ((with_reducible refine (rpass_t Aq Aj n cq cj _ _ _ _ hX hJ Hn.out HF.out).mono ?_); rintro e x2 ⟨v, rfl, ho, f2⟩; obtain ⟨An, cn, rfl, hN⟩ := ho.li (by have := Hn.out; omega))))
          rw [← HD.out] at hN
          go_roundw
          case rel => exact ⟨k + 1, by omega, by go_num, HG2.out, rfl, ⟨_, _, _, rfl, hN⟩, hF.trans f2 (fun _ _ e => e)⟩
          case measure => simp [intOf]; omega
        · have hb : (e0 != 0) = true := by rw [bne_iff_ne]; exact h0
          have HR := Lib.hid (ferr_bad HG.out (by rw [he]; exact h0) hlt)
          have HZ := Lib.hid h0
          have HQ := Lib.hid he
          clear he hL hnj hc h0
          replace hX := hX.more (B' := wr.heap.size) hX.hB (Nat.le_refl _)
          replace hJ := hJ.more (B' := wr.heap.size) hJ.hB (Nat.le_refl _)
          go_wp2_with (first
            | (go_at_call 26; (with_reducible refine (rcheck_b HE hX hJ).mono ?_); rintro e x1 ⟨rfl, f1⟩; replace hF := hF.trans f1 (fun _ _ e => e)))
          go_ret2
          have hR2 := HR.out.trans HQ.out
          exact ⟨_, by rw [hR2]; rfl, ⟨none, 0, 0, 0, rfl, by rw [hR2, if_neg HZ.out]; exact ⟨Nat.zero_le _, rfl, .inl rfl, Nat.zero_le _⟩⟩, hF⟩
      · have hkm : k = m := by omega
        subst hkm
        have HR := Lib.hid (ferr_good k HG.out)
        go_wp2
        go_ret2
        exact ⟨_, by rw [HR.out]; rfl, ⟨_, _, _, _, rfl, by rw [HR.out, if_pos rfl]; exact hX⟩, hF⟩
set_option maxHeartbeats 8000000 in
theorem rchain_zero (hX : LI w A n B xs) (hn : n ≤ 600) (hc0 : A = none → c = 0) (he0 : chk xs (zs n) 1125899906842624 = 0) :
    Calls Try.prog 23 #[.slice A n c, .slice S 0 d] w fun e w' => ∃ A' c', e = .returned (.tuple #[.slice A' n c', .int .i64 0]) ∧ LI w' A' n w'.heap.size xs ∧ Frm w w' NoB := by
  have hmk := make_ints n hX.hn
  have hF : Frm w (w.alloc (.cells (cel (List.replicate n 0)) 3)) NoB := (Frm.refl w _).alloc _
  have hX1 := (hX.alloc (.cells (cel (List.replicate n 0)) 3)).more (B' := w.heap.size + 1) (by have := hX.hB; omega) (by simp)
  have hZ : LI (w.alloc (.cells (cel (List.replicate n 0)) 3)) (some ⟨w.heap.size, 0, none⟩) n (w.heap.size + 1) (zs n) :=
    ⟨hX.hn, by simp [zs], RdI.of_blk (t := 3) (Blk.new _ _ _), by simp⟩
  have HE := Lib.hid he0
  clear he0
  have HX := Lib.hid hX.HN
  obtain ⟨i0, hi, hz0, hz1, hz2⟩ := info_parts int_info
  cases A with
  | none =>
    obtain rfl : c = 0 := hc0 rfl
    have hx0 : xs = [] := hX.hA.none_nil
    have hn0 : n = 0 := by rw [← hX.HN, hx0]; rfl
    subst hn0
    have hmk0 : ∀ w, (Instr.makeSlice 22 (.int .i64 0) (.int .i64 0)).run Try.prog w = .ok (.slice (some ⟨w.heap.size, 0, none⟩) 0 0) (w.alloc (.cells (cel []) 3)) := make_ints 0 (by decide)
    have hF0 : Frm w (w.alloc (.cells (cel []) 3)) NoB := hF
    have hX0 : LI (w.alloc (.cells (cel []) 3)) none 0 (w.heap.size + 1) xs := hX1
    have hZ0 : LI (w.alloc (.cells (cel []) 3)) (some ⟨w.heap.size, 0, none⟩) 0 (w.heap.size + 1) (zs 0) := hZ
    clear hX hc0 hmk hF hX1 hZ
    go_enter Try.func23, Try.ntmps23
    go_wp2_with (first
      | (go_at_call 26; (with_reducible refine (rcheck_b HE hX0 hZ0).mono ?_); rintro e x1 ⟨rfl, f1⟩; have hF1 := hF0.trans f1 (fun _ _ h => h); have hownE := ownE x1 w.heap.size hF1.size; have hF3 := hF1.alloc (.cells #[] 3); have hx1s := hF1.size)
      | (at_builtin; refine wpList_append_own_none rfl _ _ 22 rfl w.heap.size 3 i0 1 Try.underlying22 hi _ 0 [] rfl hownE rfl ?_))
    have hN0 : LI (x1.alloc (.cells #[] 3)) (some ⟨x1.heap.size, 0, none⟩) 0 (x1.alloc (.cells #[] 3)).heap.size xs := ⟨Nat.zero_le _, HX.out, .inl hx0, Nat.le_refl _⟩
    clear hownE hx0
    go_wp2
    go_loopw [7, 8, 9, 10] (fun v _ i _ wr => i = .int .i64 0 ∧ (∃ A' c', v = .slice A' 0 c' ∧ LI wr A' 0 wr.heap.size xs) ∧ Frm w wr NoB) (fun _ _ _ _ _ => 0)
    case atStart => exact ⟨rfl, ⟨_, _, rfl, hN0⟩, hF3⟩
    case round =>
      clear hF3 hN0
      obtain ⟨rfl, ⟨Aq, cq, rfl, hX⟩, hF⟩ := hrel
      go_wp2
      go_ret2
      exact ⟨_, _, rfl, hX, hF⟩
  | some ad =>
    clear hX hc0
    go_enter Try.func23, Try.ntmps23
    go_wp2_with (first
      | (go_at_call 26; (with_reducible refine (rcheck_b HE hX1 hZ).mono ?_); rintro e x1 ⟨rfl, f1⟩; have hcl := (hX1.frm f1).alloc (.cells #[] 3) |>.cells; have hF1 := hF.trans f1 (fun _ _ h => h); have hownE := ownE x1 w.heap.size hF1.size; have hF2 := hF1.alloc (.cells #[] 3); have hx1s := hF1.size)
      | (at_builtin; refine wpList_append_own _ rfl _ _ 22 rfl w.heap.size 3 i0 (.int .i64 0) 1 8 Try.underlying22 hi hz0 hz1 hz2 rfl (by decide) _ 0 [] rfl hownE ad n c (xs.map (Value.int .i64)) rfl ?c0 hcl ?c2 ?c3 ?c4 ?c5 ?_))
    case c0 => simp; exact HX.out
    case c2 => intro u hu; simp at hu; obtain ⟨a, _, rfl⟩ := hu; rfl
    case c3 => unfold maxLen; omega
    case c4 => omega
    case c5 => simp; omega
    intro v' w1 hown' hgrow _
    have hown3 : OwnI w1 w.heap.size v' n xs := by simpa [OwnI] using hown'
    have hF3 := hF2.grown hgrow (fun j hj hlt => absurd (hownE.lt j hj).1 (by omega))
    obtain ⟨A2, c2, rfl, hN0⟩ := hown3.li (by omega)
    clear hown' hgrow hownE hcl
    go_wp2
    go_loopw [7, 8, 9, 10] (fun v _ i _ wr => i = .int .i64 0 ∧ (∃ A' c', v = .slice A' n c' ∧ LI wr A' n wr.heap.size xs) ∧ Frm w wr NoB) (fun _ _ _ _ _ => 0)
    case atStart => exact ⟨rfl, ⟨_, _, rfl, hN0⟩, hF3⟩
    case round =>
      clear hF3 hN0
      obtain ⟨rfl, ⟨Aq, cq, rfl, hX⟩, hF⟩ := hrel
      go_wp2
      go_ret2
      exact ⟨_, _, rfl, hX, hF⟩
end
end Go.Proofs.Ytdfikembgljpkaa
