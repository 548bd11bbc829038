/- StabilityEnds, walked. -/
import Derived.Test.YthpakpljfgmkfaaW41
namespace Go.Proofs.Ythpakpljfgmkfaa
open Go.RowKit

theorem OwnI.spot {w : World} {B n c : Nat} {A : Option Addr} {ks : List Int} (h : OwnI w B (.slice A n c) n ks) (hn : 0 < n) : ∃ g, A = some ⟨g, 0, none⟩ ∧ B ≤ g ∧ g < w.heap.size := by
  rcases h.2 with ⟨_, h0⟩ | ⟨g, cap, cur, hv, hb, hg, _⟩
  · omega
  · simp only [Value.slice.injEq] at hv
    refine ⟨g, hv.1, hb, ?_⟩
    rcases Nat.lt_or_ge g w.heap.size with hlt | hge
    · exact hlt
    · rw [Array.getElem?_eq_none hge] at hg; cases hg
theorem decimate_s {A : Option Addr} {n c B q K : Nat} {xs ys : List Int} {w : World} (HE : Hid (chk xs = 0)) (HK : Hid (dN q n = K)) (HD : Hid (dL xs q n = ys)) (hq : 0 < q) (hq2 : q ≤ 9223372036854775807) (hX : LI w A n B xs) :
    Calls Try.prog 18 #[.slice A n c, .int .i64 (q : Int)] w fun e w' => ∃ A' c', e = .returned (.tuple #[.slice A' K c', .int .i64 0]) ∧ OwnI w' w.heap.size (.slice A' K c') K ys ∧ LI w' A' K w'.heap.size ys ∧ Frm w w' NoB := by
  rw [← HK.out, ← HD.out]
  refine (decimate_ok A n c B xs w q hX HE hq hq2).mono ?_
  rintro e w' ⟨v, rfl, hown, hf⟩
  have h1 := (chk_zero HE.out).1
  have h2 := dN_le hq n
  have h3 := hX.HN
  obtain ⟨A', c', rfl, _, hl⟩ := hown.li (by omega)
  exact ⟨_, _, rfl, hown, hl, hf⟩
theorem Blk.inc {w : World} {g k : Nat} {ds : List Int} {x : Int} (h : Blk w g 3 (cel (incL ds k))) (e : ds.getD k 0 = x) : Blk (w.setCell ⟨g, k, none⟩ (.int .i64 (x + 1))) g 3 (cel (incL ds (k + 1))) := by
  have h1 := h.put k (.int .i64 (x + 1))
  rw [cel_set, ← e, incL_set] at h1
  rw [← e]
  exact h1
theorem OwnI.inc {w : World} {B g n c k : Nat} {ds : List Int} {x : Int} (h : OwnI w B (.slice (some ⟨g, 0, none⟩) n c) n (incL ds k)) (e : ds.getD k 0 = x) : OwnI (w.setCell ⟨g, k, none⟩ (.int .i64 (x + 1))) B (.slice (some ⟨g, 0, none⟩) n c) n (incL ds (k + 1)) := by
  have h1 := (h.stored k (.int .i64 (x + 1))).1
  rw [← List.map_set, ← e, incL_set] at h1
  rw [← e]
  exact h1
theorem LI.drN {w : World} {A : Option Addr} {n B : Nat} {xs : List Int} (h : LI w A n B xs) (k : Nat) : LI (w.drewN k) A n B xs := h.frm ((Frm.refl w NoB).drewN k)
theorem OwnI.drewN {w : World} {B n : Nat} {v : Value} {ks : List Int} (h : OwnI w B v n ks) (k : Nat) : OwnI (w.drewN k) B v n ks := h.frm ((Frm.refl w NoB).drewN k)

section
variable {A : Option Addr} {n c B N p q r K M : Nat} {xs L La Lb : List Int} {a b : Int} {w : World}
  (HN : Hid (N = min n 1000)) (HL : Hid (lnL xs 0 0 N = L)) (hX : LX w A n B xs) (hc : n ≤ c) (HLN : Hid (L.length = N)) (HC : Hid (chk L = 0)) (HC2 : Hid (chk La = 0))
  (ta : IntKind.i64.wrap a = a) (tb : IntKind.i64.wrap b = b) (tp : IntKind.i64.wrap (a + 1) = (p : Int)) (tq : IntKind.i64.wrap (b + 1) = (q : Int)) (tr : IntKind.i64.wrap ((p : Int) * (q : Int)) = (r : Int))
  (hp : 0 < p) (hpb : p ≤ 9223372036854775807) (hq : 0 < q) (hqb : q ≤ 9223372036854775807) (hr : 0 < r) (hrb : r ≤ 9223372036854775807)
  (HK1 : Hid (dN p N = K)) (HD1 : Hid (dL L p N = La)) (HK2 : Hid (dN q K = M)) (HD2 : Hid (dL La q K = Lb)) (HK3 : Hid (dN r N = M)) (HD3 : Hid (dL L r N = Lb)) (HKp : Hid (0 < N → 0 < K)) (hNb : N ≤ 1000)
include HN HL hX hc HLN HC HC2 ta tb tp tq tr hp hpb hq hqb hr hrb HK1 HD1 HK2 HD2 HK3 HD3 HKp hNb
set_option maxRecDepth 100000 in
set_option maxHeartbeats 16000000 in
theorem ends_short (h2 : N < 2) : Calls Try.prog 4 #[.slice A n c, .int .u8 a, .int .u8 b] w fun e w' => e = .returned (.bool true) ∧ Frm w w' NoB := by
  have hz : (-2147483648 : Int) ≤ 0 ∧ (0 : Int) ≤ 2147483647 := by decide
  have hz2 : (-32768 : Int) ≤ 0 ∧ (0 : Int) ≤ 32767 := by decide
  have hF : Frm w w NoB := Frm.refl w _
  have _ := HLN
  have g5 : decide ((N : Int) < 2) = true := decide_eq_true (by omega)
  have g6 : (N : Int) < 2 := by omega
  by_cases h0 : 0 < N
  · have hKp := HKp.out h0
    have g1 : decide ((0 : Int) < (N : Int)) = true := decide_eq_true (by omega)
    have g2 : ((K : Int) == 0) = false := beq_eq_false_iff_ne.2 (by omega)
    have g3 : ¬ K = 0 := by omega
    clear HKp
    go_enter Try.func4, Try.ntmps4
    go_wp2_with (first
      | (go_at_call 12; (with_reducible refine (line_b HL hX hc HN hz hz2).mono ?_); rintro e x1 ⟨A9, c9, rfl, hc9, hL, f1⟩; replace hF := hF.trans f1 (fun _ _ h => h); clear f1)
      | (go_at_call 17; (with_reducible refine (clone_s hL (by omega)).mono ?_); rintro e x2 ⟨A10, c10, rfl, hK, f1⟩; replace hL := hL.frm f1; replace hF := hF.trans f1 (fun _ _ h => h); have hB12 := f1.size; have hw2 := hF.size; clear f1)
      | (go_at_call 18; (with_reducible refine (decimate_s HC HK1 HD1 hp hpb hL).mono ?_); rintro e x3 ⟨Aa, ca, rfl, hA, hAl, f1⟩; replace hL := hL.frm f1; replace hK := hK.frm f1; replace hF := hF.trans f1 (fun _ _ h => h); clear f1)
      | (go_at_call 18; (with_reducible refine (decimate_s HC2 HK2 HD2 hq hqb hAl).mono ?_); rintro e x4 ⟨Ab, cb, rfl, _, hBl, f1⟩; replace hL := hL.frm f1; replace hK := hK.frm f1; replace hA := hA.frm f1; replace hF := hF.trans f1 (fun _ _ h => h); clear f1 hAl)
      | (go_at_call 18; (with_reducible refine (decimate_s HC HK3 HD3 hr hrb hL).mono ?_); rintro e x5 ⟨Ac, cc, rfl, _, hCl, f1⟩; replace hL := hL.frm f1; replace hK := hK.frm f1; replace hA := hA.frm f1; replace hBl := hBl.frm f1; replace hF := hF.trans f1 (fun _ _ h => h); clear f1)
      | (go_at_call 19; (with_reducible refine (eql_li hBl hCl).mono ?_); rintro e x6 ⟨rfl, f1⟩; replace hL := hL.frm f1; replace hK := hK.frm f1; replace hA := hA.frm f1; replace hF := hF.trans f1 (fun _ _ h => h); clear f1 hBl hCl)
      | (go_at_call 16; (with_reducible refine (awake_t _).mono ?_); rintro e x9 ⟨rfl, f1⟩; replace hF := hF.trans f1 (fun _ _ h => h); clear f1)
      | (go_at_call 20; (with_reducible refine (detrend_short _ _ _ _ _ _ hL HC h2).mono ?_); rintro e x7 ⟨rfl, f1⟩; replace hF := hF.trans f1 (fun _ _ h => h); clear f1))
    go_ret
    exact ⟨rfl, hF⟩
  · obtain rfl : N = 0 := by omega
    clear HKp
    go_enter Try.func4, Try.ntmps4
    go_wp2_with (first
      | (go_at_call 12; (with_reducible refine (line_b HL hX hc HN hz hz2).mono ?_); rintro e x1 ⟨A9, c9, rfl, hc9, hL, f1⟩; replace hF := hF.trans f1 (fun _ _ h => h); clear f1)
      | (go_at_call 17; (with_reducible refine (clone_s hL (by omega)).mono ?_); rintro e x2 ⟨A10, c10, rfl, hK, f1⟩; replace hL := hL.frm f1; replace hF := hF.trans f1 (fun _ _ h => h); have hB12 := f1.size; have hw2 := hF.size; clear f1)
      | (go_at_call 18; (with_reducible refine (decimate_s HC HK1 HD1 hp hpb hL).mono ?_); rintro e x3 ⟨Aa, ca, rfl, hA, hAl, f1⟩; replace hL := hL.frm f1; replace hK := hK.frm f1; replace hF := hF.trans f1 (fun _ _ h => h); clear f1)
      | (go_at_call 18; (with_reducible refine (decimate_s HC2 HK2 HD2 hq hqb hAl).mono ?_); rintro e x4 ⟨Ab, cb, rfl, _, hBl, f1⟩; replace hL := hL.frm f1; replace hK := hK.frm f1; replace hA := hA.frm f1; replace hF := hF.trans f1 (fun _ _ h => h); clear f1 hAl)
      | (go_at_call 18; (with_reducible refine (decimate_s HC HK3 HD3 hr hrb hL).mono ?_); rintro e x5 ⟨Ac, cc, rfl, _, hCl, f1⟩; replace hL := hL.frm f1; replace hK := hK.frm f1; replace hA := hA.frm f1; replace hBl := hBl.frm f1; replace hF := hF.trans f1 (fun _ _ h => h); clear f1)
      | (go_at_call 19; (with_reducible refine (eql_li hBl hCl).mono ?_); rintro e x6 ⟨rfl, f1⟩; replace hL := hL.frm f1; replace hK := hK.frm f1; replace hA := hA.frm f1; replace hF := hF.trans f1 (fun _ _ h => h); clear f1 hBl hCl)
      | (go_at_call 16; (with_reducible refine (awake_t _).mono ?_); rintro e x9 ⟨rfl, f1⟩; replace hF := hF.trans f1 (fun _ _ h => h); clear f1)
      | (go_at_call 20; (with_reducible refine (detrend_short _ _ _ _ _ _ hL HC h2).mono ?_); rintro e x7 ⟨rfl, f1⟩; replace hF := hF.trans f1 (fun _ _ h => h); clear f1))
    go_ret
    exact ⟨rfl, hF⟩
set_option maxRecDepth 100000 in
set_option maxHeartbeats 16000000 in
theorem ends_long (h2 : 2 ≤ N) : Calls Try.prog 4 #[.slice A n c, .int .u8 a, .int .u8 b] w fun e w' => e = .returned (.bool true) ∧ Frm w w' NoB := by
  have hz : (-2147483648 : Int) ≤ 0 ∧ (0 : Int) ≤ 2147483647 := by decide
  have hz2 : (-32768 : Int) ≤ 0 ∧ (0 : Int) ≤ 32767 := by decide
  have hF : Frm w w NoB := Frm.refl w _
  have g5 : decide ((N : Int) < 2) = false := decide_eq_false (by omega)
  have g6 : ¬ (N : Int) < 2 := by omega
  have g6b : ¬ N < 2 := by omega
  have hKp := HKp.out (by omega)
  have g1 : decide ((0 : Int) < (N : Int)) = true := decide_eq_true (by omega)
  have g2 : ((K : Int) == 0) = false := beq_eq_false_iff_ne.2 (by omega)
  have g3 : ¬ K = 0 := by omega
  have g4 : 0 < N := by omega
  obtain ⟨m, hm⟩ : ∃ m, m = N - 1 := ⟨_, rfl⟩
  have t0 : IntKind.i64.wrap ((N : Int) - 1) = (m : Int) := by rw [IntWalk.i64_in _ (by omega)]; omega
  have HO : Hid (okl L L.length) := (chk_zero HC.out).2
  have HO2 : Hid (okl La La.length) := (chk_zero HC2.out).2
  have HLA : Hid (La.length = K) := by unfold Hid; rw [← HD1.out, dL_len]; exact HK1.out
  have hKN : K ≤ 1024 := by have := (chk_zero HC2.out).1; rw [HLA.out] at this; exact this
  have HG : Hid (∀ k, k < N → (dtV L).getD k 0 = dtr L k) := fun k hk => dtV_get L k (by rw [HLN.out]; exact hk)
  have HD0 : Hid ((dtV L).getD 0 0 = 0) := by unfold Hid; rw [HG.out 0 (by omega)]; exact dtr_zero L
  have HDM : Hid ((dtV L).getD m 0 = 0) := by
    unfold Hid
    rw [HG.out m (by omega)]
    have := dtr_last L (by rw [HLN.out]; exact h2)
    rw [HLN.out, ← hm] at this
    exact this
  have HDN : Hid ((dtV L).length = N) := by unfold Hid; rw [dtV_len]; exact HLN.out
  obtain ⟨DV, hDV⟩ : ∃ DV, dtV L = DV := ⟨_, rfl⟩
  rw [hDV] at HG HD0 HDM HDN
  have HDV := Lib.hid hDV
  have HM := Lib.hid hm
  have hm0 : (0 : Int) ≤ (m : Int) := Int.natCast_nonneg _
  have hm1 : (m : Int) < (N : Int) := by omega
  have hm2 : m < N := by omega
  have hm3 : 0 < m := by omega
  clear HKp hDV hm
  go_enter Try.func4, Try.ntmps4
  go_wp2_with (first
    | (go_at_call 12; (with_reducible refine (line_b HL hX hc HN hz hz2).mono ?_); rintro e x1 ⟨A9, c9, rfl, hc9, hL, f1⟩; replace hF := hF.trans f1 (fun _ _ h => h); clear f1)
    | (go_at_call 17; (with_reducible refine (clone_s hL (by omega)).mono ?_); rintro e x2 ⟨A10, c10, rfl, hK, f1⟩; replace hL := hL.frm f1; replace hF := hF.trans f1 (fun _ _ h => h); have hB12 := f1.size; have hw2 := hF.size; clear f1)
    | (go_at_call 18; (with_reducible refine (decimate_s HC HK1 HD1 hp hpb hL).mono ?_); rintro e x3 ⟨Aa, ca, rfl, hA, hAl, f1⟩; replace hL := hL.frm f1; replace hK := hK.frm f1; replace hF := hF.trans f1 (fun _ _ h => h); clear f1)
    | (go_at_call 18; (with_reducible refine (decimate_s HC2 HK2 HD2 hq hqb hAl).mono ?_); rintro e x4 ⟨Ab, cb, rfl, _, hBl, f1⟩; replace hL := hL.frm f1; replace hK := hK.frm f1; replace hA := hA.frm f1; replace hF := hF.trans f1 (fun _ _ h => h); clear f1 hAl)
    | (go_at_call 18; (with_reducible refine (decimate_s HC HK3 HD3 hr hrb hL).mono ?_); rintro e x5 ⟨Ac, cc, rfl, _, hCl, f1⟩; replace hL := hL.frm f1; replace hK := hK.frm f1; replace hA := hA.frm f1; replace hBl := hBl.frm f1; replace hF := hF.trans f1 (fun _ _ h => h); clear f1)
    | (go_at_call 19; (with_reducible refine (eql_li hBl hCl).mono ?_); rintro e x6 ⟨rfl, f1⟩; replace hL := hL.frm f1; replace hK := hK.frm f1; replace hA := hA.frm f1; replace hF := hF.trans f1 (fun _ _ h => h); clear f1 hBl hCl)
    | (go_at_call 20; (with_reducible refine (detrend_ok _ _ _ _ _ _ hL HC h2).mono ?_); rintro e x7 ⟨g, rfl, hg7, hD, f1⟩; have hgK : x2.heap.size ≤ g := Nat.le_trans hK.hB hg7; have hgL : x1.heap.size ≤ g := Nat.le_trans hL.hB hg7; have hgW : w.heap.size ≤ g := Nat.le_trans hF.size hg7; have hne : ∀ j, (Value.slice Aa K ca).ownBlock = some j → j ≠ g := (fun j hj => by have := (hA.lt j hj).2; omega); replace hL := hL.frm f1; replace hK := hK.frm f1; replace hA := hA.frm f1; replace hF := hF.trans f1 (fun _ _ h => h); rw [HDV.out] at hD; have k0 := hD.cellIs (cel_get DV 0 (by rw [HDN.out]; omega)); have km := hD.cellIs (cel_get DV m (by rw [HDN.out]; omega)); rw [HD0.out] at k0; rw [HDM.out] at km; clear f1 hg7))
  clear k0 km
  rw [← incL_zero DV] at hD
  go_loopw [18, 19, 20, 125] (fun _ _ _ i wr => ∃ k : Nat, k ≤ N ∧ i = .int .i64 k ∧ Blk wr g 3 (cel (incL DV k)) ∧ LI wr A9 N x1.heap.size L ∧ LI wr A10 N x2.heap.size L ∧ OwnI wr x2.heap.size (.slice Aa K ca) K La ∧ Frm w wr NoB) (fun _ _ _ i _ => N - (intOf i).toNat)
  case atStart => exact ⟨0, Nat.zero_le _, rfl, hD, hL, hK, hA, hF⟩
  case round =>
    clear hF hL hK hA hD
    obtain ⟨k, hk, rfl, hD, hL, hK, hA, hF⟩ := hrel
    by_cases hlt : k < N
    · obtain ⟨bb, o, rfl, _, hcell⟩ := hL.hA.pos (by rw [HLN.out]; omega)
      have qk := hcell k (by rw [HLN.out]; omega)
      have q0 := hcell 0 (by rw [HLN.out]; omega)
      have qm := hcell m (by rw [HLN.out]; omega)
      rw [Nat.add_zero] at q0
      have ok := HO.out k (by rw [HLN.out]; omega)
      have o0 := HO.out 0 (by rw [HLN.out]; omega)
      have om := HO.out m (by rw [HLN.out]; omega)
      have hd : dtr L k = L.getD k 0 - L.getD 0 0 - (L.getD (L.length - 1) 0 - L.getD 0 0) * (k : Int) / ((L.length - 1 : Nat) : Int) := rfl
      rw [HLN.out, ← HM.out] at hd
      have cf := hD.cellIs (cel_get (incL DV k) k (by rw [incL_len, HDN.out]; exact hlt))
      rw [incL_get DV k (by rw [HDN.out]; exact hlt), HG.out k hlt] at cf
      have hdk := HG.out k hlt
      have zf := hD.frozen k
      obtain ⟨x, hx⟩ : ∃ x, x = L.getD k 0 := ⟨_, rfl⟩
      obtain ⟨x0, hx0⟩ : ∃ x, x = L.getD 0 0 := ⟨_, rfl⟩
      obtain ⟨xm, hxm⟩ : ∃ x, x = L.getD m 0 := ⟨_, rfl⟩
      rw [← hx] at qk ok hd
      rw [← hx0] at q0 o0 hd
      rw [← hxm] at qm om hd
      have hPb : -2251799813685248 ≤ (xm - x0) * (k : Int) ∧ (xm - x0) * (k : Int) ≤ 2251799813685248 := by
        have h1 : ((xm - x0) * (k : Int)).natAbs = (xm - x0).natAbs * k := by rw [Int.natAbs_mul, Int.natAbs_natCast]
        have h2 : (xm - x0).natAbs * k ≤ 2199023255552 * 1024 := Nat.mul_le_mul (by omega) (by omega)
        omega
      have hFb := fl_bound (show (0 : Int) < (m : Int) by omega) hPb.1 hPb.2
      obtain ⟨P, hP⟩ : ∃ P, P = (xm - x0) * (k : Int) := ⟨_, rfl⟩
      rw [← hP] at hPb hFb hd
      obtain ⟨F, hFl⟩ : ∃ F, F = P / (m : Int) := ⟨_, rfl⟩
      rw [← hFl] at hFb hd
      obtain ⟨r1, r2, r3, _⟩ := dtr_rest x0 xm F P (m : Int) hFl (by omega)
      obtain ⟨y, hy⟩ : ∃ y, y = dtr L k := ⟨_, rfl⟩
      rw [← hy] at hd cf hdk
      obtain ⟨Q, hQ⟩ : ∃ Q, Q = (m : Int) * (-F) := ⟨_, rfl⟩
      rw [← hQ] at r1 r2 r3
      have r4 := Int.emod_nonneg P (show (m : Int) ≠ 0 by omega)
      have r5 := Int.emod_lt_of_pos P (show (0 : Int) < (m : Int) by omega)
      have t1 : IntKind.i64.wrap (y - x) = y - x := IntWalk.i64_in _ (by omega)
      have t2 : IntKind.i64.wrap (y - x + x0) = -F := by rw [IntWalk.i64_in _ (by omega)]; omega
      have t3 : IntKind.i64.wrap ((m : Int) * (-F)) = Q := by rw [← hQ]; exact IntWalk.i64_in _ (by omega)
      have t3b : IntKind.i64.wrap (-((m : Int) * F)) = Q := by rw [← Int.mul_neg]; exact t3
      have t4 : IntKind.i64.wrap (xm - x0) = xm - x0 := IntWalk.i64_in _ (by omega)
      have t5 : IntKind.i64.wrap ((xm - x0) * (k : Int)) = P := by rw [← hP]; exact IntWalk.i64_in _ (by omega)
      have t6 : IntKind.i64.wrap (Q + P) = Q + P := IntWalk.i64_in _ (by omega)
      have t7 : IntKind.i64.wrap (y + 1) = y + 1 := IntWalk.i64_in _ (by omega)
      obtain ⟨R, hR⟩ : ∃ R, R = Q + P := ⟨_, rfl⟩
      rw [← hR] at r1 r2
      replace t6 : IntKind.i64.wrap (Q + P) = R := t6.trans hR.symm
      have s1 : decide (R < 0) = false := decide_eq_false (by omega)
      have s2 : decide ((m : Int) ≤ R) = false := decide_eq_false (by omega)
      have hk0 : (0 : Int) ≤ (k : Int) := Int.natCast_nonneg _
      have hk1 : (k : Int) < (N : Int) := by omega
      have hn0 : (0 : Int) < (N : Int) := by omega
      have HDK := Lib.hid hdk
      clear hcell hx hx0 hxm ok o0 om hd hPb hFb hP hFl r1 r2 r3 r4 r5 hy hQ hR hdk
      go_wp2
      go_quiet (fail)
      go_wp2
      go_roundw
      case rel => exact ⟨k + 1, by omega, by go_num, (hD.drewN _).inc HDK.out, (hL.drN _).put hgL _ _, (hK.drN _).put hgK _ _, (OwnI.drewN hA _).put hne _ _, (hF.drewN _).put (b := g) (fun h => absurd h (by omega)) _ _⟩
      case measure => simp [intOf]; omega
    · rw [← incL_zero La] at hA
      clear hne hD hgK hgL hgW
      go_wp2
      go_loopw [21, 169] (fun _ i wr => ∃ k : Nat, k ≤ K ∧ i = .int .i64 k ∧ LI wr A9 N x1.heap.size L ∧ LI wr A10 N x2.heap.size L ∧ OwnI wr x2.heap.size (.slice Aa K ca) K (incL La k) ∧ Frm w wr NoB) (fun _ i _ => K - (intOf i).toNat)
      case atStart => exact ⟨0, Nat.zero_le _, rfl, hL, hK, hA, hF⟩
      case round =>
        clear hF hL hK hA
        obtain ⟨k, hk, rfl, hL, hK, hA, hF⟩ := hrel
        by_cases hlt : k < K
        · obtain ⟨ga, rfl, hga, _⟩ := OwnI.spot hA (by omega)
          have cf := World.ownsRow.cellAt hA k (by omega)
          have zf := World.ownsRow.frozenAt hA k
          have ok := HO2.out k (by rw [HLA.out]; exact hlt)
          obtain ⟨x, hx⟩ : ∃ x, La.getD k 0 = x := ⟨_, rfl⟩
          have cf2 : ((incL La k).map (Value.int .i64))[k]? = some (.int .i64 x) := by
            rw [← hx, ← incL_get La k (by rw [HLA.out]; exact hlt)]
            have hl2 : k < (incL La k).length := by rw [incL_len, HLA.out]; exact hlt
            simp [List.getD, List.getElem?_eq_getElem hl2]
          rw [cf2] at cf
          rw [hx] at ok
          have t7 : IntKind.i64.wrap (x + 1) = x + 1 := IntWalk.i64_in _ (by omega)
          have hk0 : (0 : Int) ≤ (k : Int) := Int.natCast_nonneg _
          have hk1 : (k : Int) < (K : Int) := by omega
          have HX := Lib.hid hx
          clear cf2 hx ok
          go_wp2
          go_roundw
          case rel => exact ⟨k + 1, by omega, by go_num, hL.put (by omega) _ _, hK.put (by omega) _ _, OwnI.inc hA HX.out, hF.put (b := ga) (fun h => absurd h (by omega)) _ _⟩
          case measure => simp [intOf]; omega
        · clear hA
          go_wp2_with (first
            | (go_at_call 19; (with_reducible refine (eql_li hL hK).mono ?_); rintro e x8 ⟨rfl, f1⟩; replace hF := hF.trans f1 (fun _ _ h => h); clear f1)
            | (go_at_call 16; (with_reducible refine (awake_t _).mono ?_); rintro e x9 ⟨rfl, f1⟩; replace hF := hF.trans f1 (fun _ _ h => h); clear f1))
          go_ret
          exact ⟨rfl, hF⟩
end
end Go.Proofs.Ythpakpljfgmkfaa
