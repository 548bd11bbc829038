/- What Delay of the reference, and mixed and Noise of both, return. -/
import Derived.Test.YtchmaecakjeceaaW5
namespace Go.Proofs.Ytchmaecakjeceaa
open Go.RowKit

theorem vld3_cases {e0 : Int} {p1 p2 p3 : Bool} : (decide (e0 = 0) && p1 && p2 && p3) = false ∧ (e0 ≠ 0 ∨ e0 = 0 ∧ (p1 = false ∨ p1 = true ∧ p2 = false ∨ p1 = true ∧ p2 = true ∧ p3 = false)) ∨ ((decide (e0 = 0) && p1 && p2 && p3) = true ∧ e0 = 0 ∧ p1 = true ∧ p2 = true ∧ p3 = true) := by
  by_cases h : e0 = 0
  · rw [decide_eq_true h]
    cases p1 <;> cases p2 <;> cases p3 <;> simp [h]
  · rw [decide_eq_false h]
    simp [h]

set_option maxHeartbeats 2000000 in
theorem rdelay_t (d0 d1 v0 v1 ls sd : Int) (A : Option Addr) (n c B : Nat) (cs : List Chg) (dir at_ : Int) (w : World) (hL : LC w A n B cs) :
    Calls Try.prog 15 #[.agg #[.int .i64 d0, .int .i64 d1, .int .i64 v0, .int .i64 v1, .int .i64 ls, .int .u64 sd, .slice A n c], .int .i64 dir, .int .i64 at_] w fun e w' => e = .returned (.int .i64 (delayF d0 d1 v0 v1 ls cs dir at_)) ∧ Frm w w' NoB := by
  obtain ⟨R, hR⟩ : ∃ R, R = delayF d0 d1 v0 v1 ls cs dir at_ := ⟨_, rfl⟩
  rw [← hR]
  obtain ⟨e0, he⟩ : ∃ e, chk d0 d1 v0 v1 ls cs = e := ⟨_, rfl⟩
  obtain ⟨p1, e1⟩ : ∃ p, okr 1 dir = p := ⟨_, rfl⟩
  obtain ⟨p2, e2⟩ : ∃ p, okr 1125899906842624 at_ = p := ⟨_, rfl⟩
  have hv : vld d0 d1 v0 v1 ls cs dir at_ 0 = (decide (e0 = 0) && p1 && p2 && true) := by unfold vld; rw [he, e1, e2, okr_zero]
  have HE := Lib.hid he
  have E1 := hid1 e1
  have E2 := hid1 e2
  have hF : Frm w (w.alloc (.cells (LkCells d0 d1 v0 v1 ls sd A n c) 26)) NoB := (Frm.refl w _).alloc _
  have hB : Blk (w.alloc (.cells (LkCells d0 d1 v0 v1 ls sd A n c) 26)) w.heap.size 26 (LkCells d0 d1 v0 v1 ls sd A n c) := Blk.new _ _ _
  have hL' := hL.alloc (.cells (LkCells d0 d1 v0 v1 ls sd A n c) 26)
  rcases vld3_cases (e0 := e0) (p1 := p1) (p2 := p2) (p3 := true) with ⟨hf, ht⟩ | ⟨htr, rfl, rfl, rfl, _⟩
  · have hR0 : R = 0 := by rw [hR]; unfold delayF; rw [hv, hf]; rfl
    subst hR0
    clear hv hf he e1 e2 hL hR
    rcases ht with h0 | ⟨rfl, rfl | ⟨rfl, rfl⟩ | ⟨_, _, h⟩⟩
    · have hb : (e0 != 0) = true := by rw [bne_iff_ne]; exact h0
      clear h0
      go_enter Try.func15, Try.ntmps15
      go_wp2_with (first
        | (go_at_call 13; refine (rcheck_b hL' HE).mono ?_; rintro e x1 ⟨rfl, f1⟩; replace hF := hF.trans f1 (fun _ _ e => e)))
      go_ret
      exact ⟨rfl, hF⟩
    · go_enter Try.func15, Try.ntmps15
      go_wp2_with (first
        | (go_at_call 13; refine (rcheck_b hL' HE).mono ?_; rintro e x1 ⟨rfl, f1⟩; replace hF := hF.trans f1 (fun _ _ e => e))
        | (go_at_call 27; (with_reducible refine (rright_b E1 _).mono ?_); rintro e x1 ⟨rfl, rfl⟩))
      go_ret
      exact ⟨rfl, hF⟩
    · go_enter Try.func15, Try.ntmps15
      go_wp2_with (first
        | (go_at_call 13; refine (rcheck_b hL' HE).mono ?_; rintro e x1 ⟨rfl, f1⟩; replace hF := hF.trans f1 (fun _ _ e => e))
        | (go_at_call 27; (with_reducible refine (rright_b E1 _).mono ?_); rintro e x1 ⟨rfl, rfl⟩)
        | (go_at_call 27; (with_reducible refine (rright_b E2 _).mono ?_); rintro e x1 ⟨rfl, rfl⟩))
      go_ret
      exact ⟨rfl, hF⟩
    · cases h
  · have hd : 0 ≤ dir ∧ dir ≤ 1 := okr_iff.1 e1
    obtain ⟨dk, rfl⟩ := Int.eq_ofNat_of_zero_le hd.1
    have hdk : dk ≤ 1 := by omega
    obtain ⟨d, hdd⟩ : ∃ d, d = if dk = 0 then d0 else d1 := ⟨_, rfl⟩
    have hR1 : R = dlk cs dk at_ d n := by
      rw [hR]; unfold delayF; rw [hv, htr, if_pos rfl, hL.HN, hdd]
      have : ((dk : Int) = 0) ↔ dk = 0 := by omega
      simp only [this]
    subst hR1
    have HD := Lib.hid hdd
    have hA := hL.hA
    have hBw := hL.hB
    have HN := Lib.hid hL.HN
    have hn := hL.hn
    clear hv htr he e1 e2 hL hR hd hdd
    go_enter Try.func15, Try.ntmps15
    go_wp2_with (first
      | (go_at_call 13; refine (rcheck_b hL' HE).mono ?_; rintro e x1 ⟨rfl, f1⟩; replace hF := hF.trans f1 (fun _ _ e => e); replace hB := hB.frm f1 (fun e => e); obtain ⟨c0, c1, c2, c3, c4, c5, c6⟩ := lk_cells hB)
      | (go_at_call 27; (with_reducible refine (rright_b E1 _).mono ?_); rintro e x1 ⟨rfl, rfl⟩)
      | (go_at_call 27
         (with_reducible refine (rright_b E2 _).mono ?_)
         rintro e x2 ⟨rfl, rfl⟩
         have cd : x1.cell? ⟨w.heap.size, dk, none⟩ = some (.int .i64 d) := by
           rcases Nat.lt_or_ge dk 1 with h | h
           · obtain rfl : dk = 0 := by omega
             rw [HD.out]; exact c0
           · obtain rfl : dk = 1 := by omega
             rw [HD.out]; exact c1))
    clear c0 c1 c2 c3 c4 c5 c6 cd
    go_loopw [7, 8] (fun dv i wr => ∃ k : Nat, k ≤ n ∧ i = .int .i64 k ∧ dv = .int .i64 (dlk cs dk at_ d k) ∧ Blk wr w.heap.size 26 (LkCells d0 d1 v0 v1 ls sd A n c) ∧ Frm w wr NoB) (fun _ i _ => n - (intOf i).toNat)
    case atStart => exact ⟨0, Nat.zero_le _, rfl, rfl, hB, hF⟩
    case round =>
      clear hF hB
      obtain ⟨k, hk, rfl, rfl, hB, hF⟩ := hrel
      by_cases hlt : k < n
      · have hA' := hA.frm hF hBw
        obtain ⟨b, o, rfl, _, hcell⟩ := hA'.pos (by rw [HN.out]; omega)
        obtain ⟨_, _, _, _, _, _, c6⟩ := lk_cells hB
        obtain ⟨q1, q2, q3⟩ := hcell k (by rw [HN.out]; omega)
        have hstep : dlk cs dk at_ d (k + 1) = if (cs.getD k Chg.z).at_ ≤ at_ ∧ (cs.getD k Chg.z).dir = dk then (cs.getD k Chg.z).del else dlk cs dk at_ d k := rfl
        obtain ⟨x, hx⟩ : ∃ x, x = (cs.getD k Chg.z).at_ := ⟨_, rfl⟩
        obtain ⟨y, hy⟩ : ∃ y, y = (cs.getD k Chg.z).dir := ⟨_, rfl⟩
        obtain ⟨z, hz⟩ : ∃ z, z = (cs.getD k Chg.z).del := ⟨_, rfl⟩
        rw [← hx] at q1 hstep
        rw [← hy] at q2 hstep
        rw [← hz] at q3 hstep
        clear hx hy hz hcell hA' hA
        obtain ⟨D, hD⟩ : ∃ D, D = dlk cs dk at_ d k := ⟨_, rfl⟩
        rw [← hD] at hstep ⊢
        by_cases h1 : x ≤ at_
        · by_cases h2 : y = dk
          · have hb : (y == (dk : Int)) = true := beq_iff_eq.2 h2
            rw [if_pos ⟨h1, h2⟩] at hstep
            have Hs := Lib.hid hstep
            clear hstep h2 hD
            go_wp2
            go_roundw
            case rel => exact ⟨k + 1, by omega, by go_num, by rw [Hs.out], hB, hF⟩
            case measure => simp [intOf]; omega
          · have hb : (y == (dk : Int)) = false := beq_eq_false_iff_ne.2 h2
            rw [if_neg (fun h => h2 h.2)] at hstep
            have Hs := Lib.hid hstep
            clear hstep h2 hD
            go_wp2
            go_roundw
            case rel => exact ⟨k + 1, by omega, by go_num, by rw [Hs.out], hB, hF⟩
            case measure => simp [intOf]; omega
        · rw [if_neg (fun h => h1 h.1)] at hstep
          have Hs := Lib.hid hstep
          clear hstep hD
          go_wp2
          go_roundw
          case rel => exact ⟨k + 1, by omega, by go_num, by rw [Hs.out], hB, hF⟩
          case measure => simp [intOf]; omega
      · have hkn : k = n := by omega
        have HK := Lib.hid hkn
        obtain ⟨_, _, _, _, _, _, c6⟩ := lk_cells hB
        clear hkn
        go_wp2
        go_ret
        exact ⟨by rw [← HK.out]; rfl, hF⟩

theorem mixed_t (d0 d1 v0 v1 ls sd : Int) (A : Option Addr) (n c : Nat) (dir m k : Int) (w : World) (_h1 : 0 ≤ dir ∧ dir ≤ 1) (_h2 : 0 ≤ m ∧ m ≤ 1099511627776) (_h3 : 0 ≤ k ∧ k ≤ 1) :
    Calls Try.prog 29 #[.agg #[.int .i64 d0, .int .i64 d1, .int .i64 v0, .int .i64 v1, .int .i64 ls, .int .u64 sd, .slice A n c], .int .i64 dir, .int .i64 m, .int .i64 k] w fun e w' => e = .returned (.int .u64 (mixI sd (4 * m + 2 * dir + k))) ∧ Frm w w' NoB := by
  go_enter Try.func29, Try.ntmps29
  go_wp2_with (go_at_call 25; refine (mix_t _ _ _).mono ?_; rintro e x1 ⟨rfl, f1⟩)
  go_ret
  exact ⟨rfl, ((Frm.refl w _).alloc _).trans f1 (fun _ _ e => e)⟩

/-- What Noise returns for valid arguments: v is the variation of the direction. -/
def nz (sd v dir m : Int) : Int := IntKind.i64.wrap (mixI sd (4 * m + 2 * dir + 1) % (v + 1))

set_option maxHeartbeats 2000000 in
theorem noise_yes (d0 d1 v0 v1 ls sd : Int) (A : Option Addr) (n c B dk : Nat) (cs : List Chg) (m v : Int) (w : World) (hL : LC w A n B cs) (hdk : dk ≤ 1) (hm : 0 ≤ m ∧ m ≤ 1099511627776)
    (hv : 0 ≤ v ∧ v ≤ 10000000000) (H : Hid (vld d0 d1 v0 v1 ls cs dk 0 m = true)) (hd : Hid (v = if dk = 0 then v0 else v1)) :
    Calls Try.prog 18 #[.agg #[.int .i64 d0, .int .i64 d1, .int .i64 v0, .int .i64 v1, .int .i64 ls, .int .u64 sd, .slice A n c], .int .i64 dk, .int .i64 m] w fun e w' => e = .returned (.int .i64 (nz sd v dk m)) ∧ Frm w w' NoB := by
  have hF : Frm w (w.alloc (.cells (LkCells d0 d1 v0 v1 ls sd A n c) 26)) NoB := (Frm.refl w _).alloc _
  have hB : Blk (w.alloc (.cells (LkCells d0 d1 v0 v1 ls sd A n c) 26)) w.heap.size 26 (LkCells d0 d1 v0 v1 ls sd A n c) := Blk.new _ _ _
  have hL' := hL.alloc (.cells (LkCells d0 d1 v0 v1 ls sd A n c) 26)
  have hpos := mixI_nonneg sd (4 * m + 2 * dk + 1)
  have hdk0 : (0 : Int) ≤ (dk : Int) := Int.natCast_nonneg _
  have hdk1 : (dk : Int) < 2 := by omega
  clear hL
  go_enter Try.func18, Try.ntmps18
  go_wp2_with (first
    | (go_at_call 28
       refine (right_b hL' H).mono ?_
       rintro e x1 ⟨rfl, f1⟩
       replace hF := hF.trans f1 (fun _ _ e => e)
       replace hB := hB.frm f1 (fun e => e)
       have cd : x1.cell? ⟨w.heap.size, 2 + dk, none⟩ = some (.int .i64 v) := by
         obtain ⟨c0, c1, c2, c3, c4, c5, c6⟩ := lk_cells hB
         rcases Nat.lt_or_ge dk 1 with h | h
         · obtain rfl : dk = 0 := by omega
           rw [hd.out]; exact c2
         · obtain rfl : dk = 1 := by omega
           rw [hd.out]; exact c3
       obtain ⟨c0, c1, c2, c3, c4, c5, c6⟩ := lk_cells hB))
  have hlt := hB.lt
  have s1 : IntKind.i64.wrap (v + 1) = v + 1 := IntWalk.i64_in _ (by omega)
  have s2 : IntKind.u64.wrap (v + 1) = v + 1 := IntWalk.u64_in _ (by omega)
  have s3 : ¬ v + 1 = 0 := by omega
  have s4 : (mixI sd (4 * m + 2 * dk + 1)).tmod (v + 1) = mixI sd (4 * m + 2 * dk + 1) % (v + 1) := Int.tmod_eq_emod_of_nonneg hpos
  go_region_held3 (fun w' => w'.cell? ⟨w.heap.size, 0, none⟩ = some (.int .i64 d0) ∧ w'.cell? ⟨w.heap.size, 1, none⟩ = some (.int .i64 d1) ∧ w'.cell? ⟨w.heap.size, 2, none⟩ = some (.int .i64 v0) ∧ w'.cell? ⟨w.heap.size, 3, none⟩ = some (.int .i64 v1) ∧
      w'.cell? ⟨w.heap.size, 4, none⟩ = some (.int .i64 ls) ∧ w'.cell? ⟨w.heap.size, 5, none⟩ = some (.int .u64 sd) ∧ w'.cell? ⟨w.heap.size, 6, none⟩ = some (.slice A n c) ∧ w'.cell? ⟨w.heap.size, 2 + dk, none⟩ = some (.int .i64 v))
    (first | go_keep | exact ⟨(hB.drew.frm f2 (fun e => e)).cellIs rfl, (hB.drew.frm f2 (fun e => e)).cellIs rfl, (hB.drew.frm f2 (fun e => e)).cellIs rfl, (hB.drew.frm f2 (fun e => e)).cellIs rfl, (hB.drew.frm f2 (fun e => e)).cellIs rfl, (hB.drew.frm f2 (fun e => e)).cellIs rfl, (hB.drew.frm f2 (fun e => e)).cellIs rfl, (f2.cell (p := ⟨w.heap.size, 2 + dk, none⟩) hlt (fun e => e)).trans cd⟩)
    (first | (go_at_call 29; refine (mixed_t d0 d1 v0 v1 ls sd A n c dk m 1 _ (by omega) (by omega) (by omega)).mono ?_; rintro e x2 ⟨rfl, f2⟩))
  go_wp2
  go_ret
  exact ⟨rfl, hF.drew.trans f2 (fun _ _ e => e)⟩
theorem noise_no (d0 d1 v0 v1 ls sd : Int) (A : Option Addr) (n c B : Nat) (cs : List Chg) (dir m : Int) (w : World) (hL : LC w A n B cs) (H : Hid (vld d0 d1 v0 v1 ls cs dir 0 m = false)) :
    Calls Try.prog 18 #[.agg #[.int .i64 d0, .int .i64 d1, .int .i64 v0, .int .i64 v1, .int .i64 ls, .int .u64 sd, .slice A n c], .int .i64 dir, .int .i64 m] w fun e w' => e = .returned (.int .i64 0) ∧ Frm w w' NoB := by
  have hF : Frm w (w.alloc (.cells (LkCells d0 d1 v0 v1 ls sd A n c) 26)) NoB := (Frm.refl w _).alloc _
  have hL' := hL.alloc (.cells (LkCells d0 d1 v0 v1 ls sd A n c) 26)
  clear hL
  go_enter Try.func18, Try.ntmps18
  go_wp2_with (go_at_call 28; refine (right_b hL' H).mono ?_; rintro e x1 ⟨rfl, f1⟩; replace hF := hF.trans f1 (fun _ _ e => e))
  go_ret
  exact ⟨rfl, hF⟩

/-- What Noise returns. -/
noncomputable def noiseF (d0 d1 v0 v1 ls sd : Int) (cs : List Chg) (dir m : Int) : Int :=
  if vld d0 d1 v0 v1 ls cs dir 0 m = true then nz sd (if dir = 0 then v0 else v1) dir m else 0
theorem hd_bounds {d0 d1 v0 v1 ls : Int} (h : hd d0 d1 v0 v1 ls = true) : (0 ≤ d0 ∧ d0 ≤ 10000000000) ∧ (0 ≤ d1 ∧ d1 ≤ 10000000000) ∧ (0 ≤ v0 ∧ v0 ≤ 10000000000) ∧ (0 ≤ v1 ∧ v1 ≤ 10000000000) ∧ 0 ≤ ls ∧ ls ≤ 1000 := by
  unfold hd at h
  simp only [Bool.and_eq_true, okr_iff] at h
  exact ⟨h.1.1.1, h.1.1.2, h.1.2.1, h.1.2.2, h.2⟩
theorem sel_eq (dk : Nat) (a b : Int) : (if (dk : Int) = 0 then a else b) = if dk = 0 then a else b := by
  have : ((dk : Int) = 0) ↔ dk = 0 := by omega
  simp only [this]
theorem noise_t (d0 d1 v0 v1 ls sd : Int) (A : Option Addr) (n c B : Nat) (cs : List Chg) (dir m : Int) (w : World) (hL : LC w A n B cs) :
    Calls Try.prog 18 #[.agg #[.int .i64 d0, .int .i64 d1, .int .i64 v0, .int .i64 v1, .int .i64 ls, .int .u64 sd, .slice A n c], .int .i64 dir, .int .i64 m] w fun e w' => e = .returned (.int .i64 (noiseF d0 d1 v0 v1 ls sd cs dir m)) ∧ Frm w w' NoB := by
  cases h : vld d0 d1 v0 v1 ls cs dir 0 m
  · have e : noiseF d0 d1 v0 v1 ls sd cs dir m = 0 := by unfold noiseF; rw [h]; rfl
    rw [e]
    exact noise_no d0 d1 v0 v1 ls sd A n c B cs dir m w hL h
  · obtain ⟨hc, hd', _, hm⟩ := vld_iff.1 h
    obtain ⟨hh, _, _, _⟩ := chk_zero hc
    obtain ⟨_, _, b3, b4, _⟩ := hd_bounds hh
    obtain ⟨dk, rfl⟩ := Int.eq_ofNat_of_zero_le hd'.1
    have e : noiseF d0 d1 v0 v1 ls sd cs dk m = nz sd (if dk = 0 then v0 else v1) dk m := by unfold noiseF; rw [h, if_pos rfl, sel_eq]
    rw [e]
    exact noise_yes d0 d1 v0 v1 ls sd A n c B dk cs m _ w hL (by omega) hm (by split <;> assumption) h rfl

set_option maxHeartbeats 2000000 in
theorem rnoise_t (d0 d1 v0 v1 ls sd : Int) (A : Option Addr) (n c B : Nat) (cs : List Chg) (dir m : Int) (w : World) (hL : LC w A n B cs) :
    Calls Try.prog 19 #[.agg #[.int .i64 d0, .int .i64 d1, .int .i64 v0, .int .i64 v1, .int .i64 ls, .int .u64 sd, .slice A n c], .int .i64 dir, .int .i64 m] w fun e w' => e = .returned (.int .i64 (noiseF d0 d1 v0 v1 ls sd cs dir m)) ∧ Frm w w' NoB := by
  obtain ⟨R, hR⟩ : ∃ R, R = noiseF d0 d1 v0 v1 ls sd cs dir m := ⟨_, rfl⟩
  rw [← hR]
  obtain ⟨e0, he⟩ : ∃ e, chk d0 d1 v0 v1 ls cs = e := ⟨_, rfl⟩
  obtain ⟨p1, e1⟩ : ∃ p, okr 1 dir = p := ⟨_, rfl⟩
  obtain ⟨p2, e2⟩ : ∃ p, okr 1099511627776 m = p := ⟨_, rfl⟩
  have hz : okr 1125899906842624 0 = true := by decide
  have hv : vld d0 d1 v0 v1 ls cs dir 0 m = (decide (e0 = 0) && p1 && true && p2) := by unfold vld; rw [he, e1, e2, hz]
  have HE := Lib.hid he
  have E1 := hid1 e1
  have E2 := hid1 e2
  have hF : Frm w (w.alloc (.cells (LkCells d0 d1 v0 v1 ls sd A n c) 26)) NoB := (Frm.refl w _).alloc _
  have hB : Blk (w.alloc (.cells (LkCells d0 d1 v0 v1 ls sd A n c) 26)) w.heap.size 26 (LkCells d0 d1 v0 v1 ls sd A n c) := Blk.new _ _ _
  have hL' := hL.alloc (.cells (LkCells d0 d1 v0 v1 ls sd A n c) 26)
  rcases vld3_cases (e0 := e0) (p1 := p1) (p2 := true) (p3 := p2) with ⟨hf, ht⟩ | ⟨htr, rfl, rfl, _, rfl⟩
  · have hR0 : R = 0 := by rw [hR]; unfold noiseF; rw [hv, hf]; rfl
    subst hR0
    clear hv hf he e1 e2 hL hR hz
    rcases ht with h0 | ⟨rfl, rfl | ⟨_, h⟩ | ⟨rfl, _, rfl⟩⟩
    · have hb : (e0 != 0) = true := by rw [bne_iff_ne]; exact h0
      clear h0
      go_enter Try.func19, Try.ntmps19
      go_wp2_with (first
        | (go_at_call 13; refine (rcheck_b hL' HE).mono ?_; rintro e x1 ⟨rfl, f1⟩; replace hF := hF.trans f1 (fun _ _ e => e)))
      go_ret
      exact ⟨rfl, hF⟩
    · go_enter Try.func19, Try.ntmps19
      go_wp2_with (first
        | (go_at_call 13; refine (rcheck_b hL' HE).mono ?_; rintro e x1 ⟨rfl, f1⟩; replace hF := hF.trans f1 (fun _ _ e => e))
        | (go_at_call 27; (with_reducible refine (rright_b E1 _).mono ?_); rintro e x1 ⟨rfl, rfl⟩))
      go_ret
      exact ⟨rfl, hF⟩
    · cases h
    · go_enter Try.func19, Try.ntmps19
      go_wp2_with (first
        | (go_at_call 13; refine (rcheck_b hL' HE).mono ?_; rintro e x1 ⟨rfl, f1⟩; replace hF := hF.trans f1 (fun _ _ e => e))
        | (go_at_call 27; (with_reducible refine (rright_b E1 _).mono ?_); rintro e x1 ⟨rfl, rfl⟩)
        | (go_at_call 27; (with_reducible refine (rright_b E2 _).mono ?_); rintro e x1 ⟨rfl, rfl⟩))
      go_ret
      exact ⟨rfl, hF⟩
  · have hd' : 0 ≤ dir ∧ dir ≤ 1 := okr_iff.1 e1
    have hm : 0 ≤ m ∧ m ≤ 1099511627776 := okr_iff.1 e2
    obtain ⟨hh, _, _, _⟩ := chk_zero he
    obtain ⟨_, _, b3, b4, _⟩ := hd_bounds hh
    obtain ⟨dk, rfl⟩ := Int.eq_ofNat_of_zero_le hd'.1
    have hdk : dk ≤ 1 := by omega
    obtain ⟨v, hdd⟩ : ∃ v, v = if dk = 0 then v0 else v1 := ⟨_, rfl⟩
    have hvb : 0 ≤ v ∧ v ≤ 10000000000 := by rw [hdd]; split <;> assumption
    have hR1 : R = nz sd v dk m := by rw [hR]; unfold noiseF; rw [hv, htr, if_pos rfl, sel_eq, hdd]
    subst hR1
    have HD := Lib.hid hdd
    have hpos := mixI_nonneg sd (4 * m + 2 * dk + 1)
    have hdk0 : (0 : Int) ≤ (dk : Int) := Int.natCast_nonneg _
    have hdk1 : (dk : Int) < 2 := by omega
    clear hv htr he e1 e2 hL hR hd' hdd b3 b4 hh hz
    go_enter Try.func19, Try.ntmps19
    go_wp2_with (first
      | (go_at_call 13; refine (rcheck_b hL' HE).mono ?_; rintro e x1 ⟨rfl, f1⟩; replace hF := hF.trans f1 (fun _ _ e => e); replace hB := hB.frm f1 (fun e => e); obtain ⟨c0, c1, c2, c3, c4, c5, c6⟩ := lk_cells hB)
      | (go_at_call 27; (with_reducible refine (rright_b E1 _).mono ?_); rintro e x1 ⟨rfl, rfl⟩)
      | (go_at_call 27; (with_reducible refine (rright_b E2 _).mono ?_); rintro e x1 ⟨rfl, rfl⟩))
    have cd : x1.cell? ⟨w.heap.size, 2 + dk, none⟩ = some (.int .i64 v) := by
      rcases Nat.lt_or_ge dk 1 with h | h
      · obtain rfl : dk = 0 := by omega
        rw [HD.out]; exact c2
      · obtain rfl : dk = 1 := by omega
        rw [HD.out]; exact c3
    have s1 : IntKind.i64.wrap (v + 1) = v + 1 := IntWalk.i64_in _ (by omega)
    have s2 : IntKind.u64.wrap (v + 1) = v + 1 := IntWalk.u64_in _ (by omega)
    have s3 : ¬ v + 1 = 0 := by omega
    have s4 : (mixI sd (4 * m + 2 * dk + 1)).tmod (v + 1) = mixI sd (4 * m + 2 * dk + 1) % (v + 1) := Int.tmod_eq_emod_of_nonneg hpos
    have s5 : IntKind.i64.wrap (4 * m) = 4 * m := IntWalk.i64_in _ (by omega)
    have s6 : IntKind.i64.wrap (2 * (dk : Int)) = 2 * dk := IntWalk.i64_in _ (by omega)
    have s7 : IntKind.i64.wrap (4 * m + 2 * (dk : Int)) = 4 * m + 2 * dk := IntWalk.i64_in _ (by omega)
    have s8 : IntKind.i64.wrap (4 * m + 2 * (dk : Int) + 1) = 4 * m + 2 * dk + 1 := IntWalk.i64_in _ (by omega)
    have s9 : IntKind.u64.wrap (4 * m + 2 * (dk : Int) + 1) = 4 * m + 2 * dk + 1 := IntWalk.u64_in _ (by omega)
    have hlt := hB.lt
    go_region_held3 (fun w' => w'.cell? ⟨w.heap.size, 5, none⟩ = some (.int .u64 sd) ∧ w'.cell? ⟨w.heap.size, 2 + dk, none⟩ = some (.int .i64 v))
      (go_keep)
      (first | (go_at_call 30; refine (rmix_t _ _ _).mono ?_; rintro e x2 ⟨rfl, rfl⟩))
    go_wp2
    go_ret
    exact ⟨rfl, hF.drew⟩
end Go.Proofs.Ytchmaecakjeceaa
