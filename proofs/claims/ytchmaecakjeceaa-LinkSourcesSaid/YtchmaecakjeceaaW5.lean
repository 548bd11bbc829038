/- What right, Delay and mixed of the program, and Delay of the reference, return. -/
import Derived.Test.YtchmaecakjeceaaW4
namespace Go.Proofs.Ytchmaecakjeceaa
open Go.RowKit

/-- The slice of a link's changes reads as the list cs. -/
structure LC (w : World) (A : Option Addr) (n B : Nat) (cs : List Chg) : Prop where
  hn : n ≤ 5864062014805
  HN : cs.length = n
  hA : RdC w B A cs
  hB : B ≤ w.heap.size
theorem LC.frm {w w' : World} {A : Option Addr} {n B : Nat} {cs : List Chg} (h : LC w A n B cs) (f : Frm w w' NoB) : LC w' A n B cs :=
  ⟨h.hn, h.HN, h.hA.frm f h.hB, Nat.le_trans h.hB f.size⟩
theorem LC.alloc {w : World} {A : Option Addr} {n B : Nat} {cs : List Chg} (h : LC w A n B cs) (o : Obj) : LC (w.alloc o) A n B cs := h.frm ((Frm.refl _ _).alloc o)
theorem LC.drew {w : World} {A : Option Addr} {n B : Nat} {cs : List Chg} (h : LC w A n B cs) : LC w.drew A n B cs := h.frm ((Frm.refl _ _).drew)

section
variable {d0 d1 v0 v1 ls sd : Int} {A : Option Addr} {n c B : Nat} {cs : List Chg} {e0 : Int} {w : World}
theorem check_b (h : LC w A n B cs) (H : Hid (chk d0 d1 v0 v1 ls cs = e0)) :
    Calls Try.prog 12 #[.agg #[.int .i64 d0, .int .i64 d1, .int .i64 v0, .int .i64 v1, .int .i64 ls, .int .u64 sd, .slice A n c]] w fun e w' => e = .returned (.int .i64 e0) ∧ Frm w w' NoB := by
  have k := check_t d0 d1 v0 v1 ls sd A n c B cs w h.hn h.HN h.hA h.hB
  rw [H.out] at k
  exact k
theorem rcheck_b (h : LC w A n B cs) (H : Hid (chk d0 d1 v0 v1 ls cs = e0)) :
    Calls Try.prog 13 #[.agg #[.int .i64 d0, .int .i64 d1, .int .i64 v0, .int .i64 v1, .int .i64 ls, .int .u64 sd, .slice A n c]] w fun e w' => e = .returned (.int .i64 e0) ∧ Frm w w' NoB := by
  have k := rcheck_t d0 d1 v0 v1 ls sd A n c B cs w h.hn h.HN h.hA h.hB
  rw [H.out] at k
  exact k
end

/-- Are a link, a direction, a time and a message's number valid? -/
noncomputable def vld (d0 d1 v0 v1 ls : Int) (cs : List Chg) (dir at_ m : Int) : Bool :=
  decide (chk d0 d1 v0 v1 ls cs = 0) && okr 1 dir && okr 1125899906842624 at_ && okr 1099511627776 m
theorem vld_iff {d0 d1 v0 v1 ls : Int} {cs : List Chg} {dir at_ m : Int} : vld d0 d1 v0 v1 ls cs dir at_ m = true ↔
    chk d0 d1 v0 v1 ls cs = 0 ∧ (0 ≤ dir ∧ dir ≤ 1) ∧ (0 ≤ at_ ∧ at_ ≤ 1125899906842624) ∧ 0 ≤ m ∧ m ≤ 1099511627776 := by
  unfold vld; simp only [Bool.and_eq_true, decide_eq_true_eq, okr_iff]
  exact ⟨fun ⟨⟨⟨a, b⟩, c⟩, d⟩ => ⟨a, b, c, d⟩, fun ⟨a, b, c, d⟩ => ⟨⟨⟨a, b⟩, c⟩, d⟩⟩

set_option maxHeartbeats 1000000 in
theorem right_t (d0 d1 v0 v1 ls sd : Int) (A : Option Addr) (n c B : Nat) (cs : List Chg) (dir at_ m : Int) (w : World) (hL : LC w A n B cs) :
    Calls Try.prog 28 #[.agg #[.int .i64 d0, .int .i64 d1, .int .i64 v0, .int .i64 v1, .int .i64 ls, .int .u64 sd, .slice A n c], .int .i64 dir, .int .i64 at_, .int .i64 m] w fun e w' =>
      e = .returned (.bool (vld d0 d1 v0 v1 ls cs dir at_ m)) ∧ Frm w w' NoB := by
  have key : ∀ r : Bool, r = vld d0 d1 v0 v1 ls cs dir at_ m → Calls Try.prog 28 #[.agg #[.int .i64 d0, .int .i64 d1, .int .i64 v0, .int .i64 v1, .int .i64 ls, .int .u64 sd, .slice A n c], .int .i64 dir, .int .i64 at_, .int .i64 m] w fun e w' =>
      e = .returned (.bool r) ∧ Frm w w' NoB := by
    intro r hr
    obtain ⟨e0, he⟩ : ∃ e, chk d0 d1 v0 v1 ls cs = e := ⟨_, rfl⟩
    obtain ⟨p1, e1⟩ : ∃ p, okr 1 dir = p := ⟨_, rfl⟩
    obtain ⟨p2, e2⟩ : ∃ p, okr 1125899906842624 at_ = p := ⟨_, rfl⟩
    obtain ⟨p3, e3⟩ : ∃ p, okr 1099511627776 m = p := ⟨_, rfl⟩
    have hr2 : r = (decide (e0 = 0) && p1 && p2 && p3) := by rw [hr]; unfold vld; rw [he, e1, e2, e3]
    have HE := Lib.hid he
    have E1 := hid0 (by omega) e1
    have E2 := hid0 (by omega) e2
    have E3 := hid0 (by omega) e3
    have hF : Frm w (w.alloc (.cells (LkCells d0 d1 v0 v1 ls sd A n c) 26)) NoB := (Frm.refl w _).alloc _
    have hL' := hL.alloc (.cells (LkCells d0 d1 v0 v1 ls sd A n c) 26)
    clear hr he e1 e2 e3 hL
    by_cases h0 : e0 = 0
    · subst h0
      have ht : (r = false ∧ (p1 = false ∨ (p1 = true ∧ p2 = false))) ∨ (r = p3 ∧ p1 = true ∧ p2 = true) := by subst hr2; cases p1 <;> cases p2 <;> cases p3 <;> simp
      clear hr2
      rcases ht with ⟨rfl, rfl | ⟨rfl, rfl⟩⟩ | ⟨rfl, rfl, rfl⟩
      all_goals
        go_enter Try.func28, Try.ntmps28
        go_wp2_with (first
          | (go_at_call 12; refine (check_b hL' HE).mono ?_; rintro e x1 ⟨rfl, f1⟩; replace hF := hF.trans f1 (fun _ _ e => e))
          | (go_at_call 26; (with_reducible refine (in_b E1 _).mono ?_); rintro e x1 ⟨rfl, f1⟩; replace hF := hF.trans f1 (fun _ _ e => e))
          | (go_at_call 26; (with_reducible refine (in_b E2 _).mono ?_); rintro e x1 ⟨rfl, f1⟩; replace hF := hF.trans f1 (fun _ _ e => e))
          | (go_at_call 26; (with_reducible refine (in_b E3 _).mono ?_); rintro e x1 ⟨rfl, f1⟩; replace hF := hF.trans f1 (fun _ _ e => e)))
        go_ret
        exact ⟨rfl, hF⟩
    · have hb : (e0 == 0) = false := beq_eq_false_iff_ne.2 h0
      have hr3 : r = false := by rw [hr2, decide_eq_false h0]; rfl
      subst hr3
      clear h0 hr2
      go_enter Try.func28, Try.ntmps28
      go_wp2_with (first
        | (go_at_call 12; refine (check_b hL' HE).mono ?_; rintro e x1 ⟨rfl, f1⟩; replace hF := hF.trans f1 (fun _ _ e => e)))
      go_ret
      exact ⟨rfl, hF⟩
  exact key _ rfl

/-- The delay after the first k changes. -/
def dlk (cs : List Chg) (dir at_ d : Int) : Nat → Int
  | 0 => d
  | k + 1 => if (cs.getD k Chg.z).at_ ≤ at_ ∧ (cs.getD k Chg.z).dir = dir then (cs.getD k Chg.z).del else dlk cs dir at_ d k
/-- What Delay returns. -/
noncomputable def delayF (d0 d1 v0 v1 ls : Int) (cs : List Chg) (dir at_ : Int) : Int :=
  if vld d0 d1 v0 v1 ls cs dir at_ 0 = true then dlk cs dir at_ (if dir = 0 then d0 else d1) cs.length else 0

theorem okr_zero : okr 1099511627776 0 = true := by decide
theorem right_b {d0 d1 v0 v1 ls sd : Int} {A : Option Addr} {n c B : Nat} {cs : List Chg} {dir at_ m : Int} {w : World} {p : Bool} (hL : LC w A n B cs) (H : Hid (vld d0 d1 v0 v1 ls cs dir at_ m = p)) :
    Calls Try.prog 28 #[.agg #[.int .i64 d0, .int .i64 d1, .int .i64 v0, .int .i64 v1, .int .i64 ls, .int .u64 sd, .slice A n c], .int .i64 dir, .int .i64 at_, .int .i64 m] w fun e w' => e = .returned (.bool p) ∧ Frm w w' NoB := by
  have k := right_t d0 d1 v0 v1 ls sd A n c B cs dir at_ m w hL
  rw [H.out] at k
  exact k

set_option maxHeartbeats 2000000 in
theorem delay_yes (d0 d1 v0 v1 ls sd : Int) (A : Option Addr) (n c B dk : Nat) (cs : List Chg) (at_ d : Int) (w : World) (hL : LC w A n B cs) (hdk : dk ≤ 1) (H : Hid (vld d0 d1 v0 v1 ls cs dk at_ 0 = true)) (hd : Hid (d = if dk = 0 then d0 else d1)) :
    Calls Try.prog 14 #[.agg #[.int .i64 d0, .int .i64 d1, .int .i64 v0, .int .i64 v1, .int .i64 ls, .int .u64 sd, .slice A n c], .int .i64 dk, .int .i64 at_] w fun e w' =>
      e = .returned (.int .i64 (dlk cs dk at_ d n)) ∧ Frm w w' NoB := by
  have hF : Frm w (w.alloc (.cells (LkCells d0 d1 v0 v1 ls sd A n c) 26)) NoB := (Frm.refl w _).alloc _
  have hB : Blk (w.alloc (.cells (LkCells d0 d1 v0 v1 ls sd A n c) 26)) w.heap.size 26 (LkCells d0 d1 v0 v1 ls sd A n c) := Blk.new _ _ _
  have hL' := hL.alloc (.cells (LkCells d0 d1 v0 v1 ls sd A n c) 26)
  have hA := hL.hA
  have hBw := hL.hB
  have HN := Lib.hid hL.HN
  have hn := hL.hn
  clear hL
  go_enter Try.func14, Try.ntmps14
  go_wp2_with (first
    | (go_at_call 28
       refine (right_b hL' H).mono ?_
       rintro e x1 ⟨rfl, f1⟩
       replace hF := hF.trans f1 (fun _ _ e => e)
       replace hB := hB.frm f1 (fun e => e)
       obtain ⟨c0, c1, c2, c3, c4, c5, c6⟩ := lk_cells hB
       have cd : x1.cell? ⟨w.heap.size, dk, none⟩ = some (.int .i64 d) := by
         rcases Nat.lt_or_ge dk 1 with h | h
         · obtain rfl : dk = 0 := by omega
           rw [hd.out]; exact c0
         · obtain rfl : dk = 1 := by omega
           rw [hd.out]; exact c1))
  clear hB c0 c1 c2 c3 c4 c5 c6 cd
  go_loopw [7, 22] (fun dv i wr => ∃ k : Nat, k ≤ n ∧ i = .int .i64 k ∧ dv = .int .i64 (dlk cs dk at_ d k) ∧ Frm w wr NoB) (fun _ i _ => n - (intOf i).toNat)
  case atStart => exact ⟨0, Nat.zero_le _, rfl, rfl, hF⟩
  case round =>
    clear hF
    obtain ⟨k, hk, rfl, rfl, hF⟩ := hrel
    by_cases hlt : k < n
    · have hA' := hA.frm hF hBw
      obtain ⟨b, o, rfl, _, hcell⟩ := hA'.pos (by rw [HN.out]; omega)
      obtain ⟨q1, q2, q3⟩ := hcell k (by rw [HN.out]; omega)
      have hstep : dlk cs dk at_ d (k + 1) = if (cs.getD k Chg.z).at_ ≤ at_ ∧ (cs.getD k Chg.z).dir = dk then (cs.getD k Chg.z).del else dlk cs dk at_ d k := rfl
      obtain ⟨x, hx⟩ : ∃ x, x = (cs.getD k Chg.z).at_ := ⟨_, rfl⟩
      obtain ⟨y, hy⟩ : ∃ y, y = (cs.getD k Chg.z).dir := ⟨_, rfl⟩
      obtain ⟨z, hz⟩ : ∃ z, z = (cs.getD k Chg.z).del := ⟨_, rfl⟩
      rw [← hx] at q1 hstep
      rw [← hy] at q2 hstep
      rw [← hz] at q3 hstep
      clear hx hy hz hcell hA' hA
      obtain ⟨D, hD⟩ : ∃ D, D = dlk cs dk at_ d k := ⟨_, rfl⟩
      rw [← hD] at hstep ⊢
      by_cases h1 : x ≤ at_
      · by_cases h2 : y = dk
        · have hb : (y == (dk : Int)) = true := beq_iff_eq.2 h2
          rw [if_pos ⟨h1, h2⟩] at hstep
          have Hs := Lib.hid hstep
          clear hstep h2 hD
          go_wp2
          go_roundw
          case rel => exact ⟨k + 1, by omega, by go_num, by rw [Hs.out], hF.alloc _⟩
          case measure => simp [intOf]; omega
        · have hb : (y == (dk : Int)) = false := beq_eq_false_iff_ne.2 h2
          rw [if_neg (fun h => h2 h.2)] at hstep
          have Hs := Lib.hid hstep
          clear hstep h2 hD
          go_wp2
          go_roundw
          case rel => exact ⟨k + 1, by omega, by go_num, by rw [Hs.out], hF.alloc _⟩
          case measure => simp [intOf]; omega
      · rw [if_neg (fun h => h1 h.1)] at hstep
        have Hs := Lib.hid hstep
        clear hstep hD
        go_wp2
        go_roundw
        case rel => exact ⟨k + 1, by omega, by go_num, by rw [Hs.out], hF.alloc _⟩
        case measure => simp [intOf]; omega
    · have hkn : k = n := by omega
      have HK := Lib.hid hkn
      clear hkn
      go_wp2
      go_ret
      exact ⟨by rw [← HK.out]; rfl, hF⟩
theorem delay_no (d0 d1 v0 v1 ls sd : Int) (A : Option Addr) (n c B : Nat) (cs : List Chg) (dir at_ : Int) (w : World) (hL : LC w A n B cs) (H : Hid (vld d0 d1 v0 v1 ls cs dir at_ 0 = false)) :
    Calls Try.prog 14 #[.agg #[.int .i64 d0, .int .i64 d1, .int .i64 v0, .int .i64 v1, .int .i64 ls, .int .u64 sd, .slice A n c], .int .i64 dir, .int .i64 at_] w fun e w' =>
      e = .returned (.int .i64 0) ∧ Frm w w' NoB := by
  have hF : Frm w (w.alloc (.cells (LkCells d0 d1 v0 v1 ls sd A n c) 26)) NoB := (Frm.refl w _).alloc _
  have hL' := hL.alloc (.cells (LkCells d0 d1 v0 v1 ls sd A n c) 26)
  clear hL
  go_enter Try.func14, Try.ntmps14
  go_wp2_with (go_at_call 28; refine (right_b hL' H).mono ?_; rintro e x1 ⟨rfl, f1⟩; replace hF := hF.trans f1 (fun _ _ e => e))
  go_ret
  exact ⟨rfl, hF⟩
theorem delay_t (d0 d1 v0 v1 ls sd : Int) (A : Option Addr) (n c B : Nat) (cs : List Chg) (dir at_ : Int) (w : World) (hL : LC w A n B cs) :
    Calls Try.prog 14 #[.agg #[.int .i64 d0, .int .i64 d1, .int .i64 v0, .int .i64 v1, .int .i64 ls, .int .u64 sd, .slice A n c], .int .i64 dir, .int .i64 at_] w fun e w' =>
      e = .returned (.int .i64 (delayF d0 d1 v0 v1 ls cs dir at_)) ∧ Frm w w' NoB := by
  cases h : vld d0 d1 v0 v1 ls cs dir at_ 0
  · have e : delayF d0 d1 v0 v1 ls cs dir at_ = 0 := by unfold delayF; rw [h]; rfl
    rw [e]
    exact delay_no d0 d1 v0 v1 ls sd A n c B cs dir at_ w hL h
  · obtain ⟨_, hd, _⟩ := vld_iff.1 h
    obtain ⟨dk, rfl⟩ := Int.eq_ofNat_of_zero_le hd.1
    have e : delayF d0 d1 v0 v1 ls cs dk at_ = dlk cs dk at_ (if dk = 0 then d0 else d1) n := by
      unfold delayF; rw [h, if_pos rfl, hL.HN]
      have : ((dk : Int) = 0) ↔ dk = 0 := by omega
      simp only [this]
    rw [e]
    exact delay_yes d0 d1 v0 v1 ls sd A n c B dk cs at_ _ w hL (by omega) h rfl
end Go.Proofs.Ytchmaecakjeceaa
