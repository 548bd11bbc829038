/- StabilityScales, walked. -/
import Derived.Test.YthpakpljfgmkfaaW37
import Derived.Maps.AppendAt
namespace Go.Proofs.Ythpakpljfgmkfaa
open Go.RowKit

/-- A slice of n int16 that reads as xs. -/
structure LS (w : World) (A : Option Addr) (n B : Nat) (xs : List Int) : Prop where
  HN : xs.length = n
  hA : xs = [] ∨ ∃ b o, A = some ⟨b, o, none⟩ ∧ b < B ∧ ∀ j, j < xs.length → w.cell? ⟨b, o + j, none⟩ = some (.int .i16 (xs.getD j 0)) ∧ -32768 ≤ xs.getD j 0 ∧ xs.getD j 0 ≤ 32767
  hB : B ≤ w.heap.size
theorem LS.frm {w w' : World} {A : Option Addr} {n B : Nat} {xs : List Int} (h : LS w A n B xs) (f : Frm w w' NoB) : LS w' A n B xs :=
  ⟨h.HN, by
    rcases h.hA with e | ⟨b, o, e, hb, hc⟩
    · exact .inl e
    · exact .inr ⟨b, o, e, hb, fun j hj => ⟨(f.cell (p := ⟨b, o + j, none⟩) (Nat.lt_of_lt_of_le hb h.hB) (fun h => h)).trans (hc j hj).1, (hc j hj).2⟩⟩, Nat.le_trans h.hB f.size⟩
theorem LS.pos {w : World} {A : Option Addr} {n B : Nat} {xs : List Int} (h : LS w A n B xs) (hp : 0 < n) : ∃ b o, A = some ⟨b, o, none⟩ ∧ b < B ∧ ∀ j, j < n → w.cell? ⟨b, o + j, none⟩ = some (.int .i16 (xs.getD j 0)) ∧ -32768 ≤ xs.getD j 0 ∧ xs.getD j 0 ≤ 32767 := by
  have hn := h.HN
  rcases h.hA with e | ⟨b, o, e, hb, hc⟩
  · subst e; simp at hn; omega
  · exact ⟨b, o, e, hb, fun j hj => hc j (by omega)⟩
def tkL (xs : List Int) (k : Nat) : List Int := (List.range k).map fun i => xs.getD i 0
def scL (xs : List Int) (a : Int) (k : Nat) : List Int := (List.range k).map fun i => xs.getD i 0 * a
theorem tkL_succ (xs : List Int) (k : Nat) : tkL xs (k + 1) = tkL xs k ++ [xs.getD k 0] := by simp [tkL, List.range_succ]
theorem scL_succ (xs : List Int) (a : Int) (k : Nat) : scL xs a (k + 1) = scL xs a k ++ [xs.getD k 0 * a] := by simp [scL, List.range_succ]
theorem tkL_len (xs : List Int) (k : Nat) : (tkL xs k).length = k := by simp [tkL]
theorem scL_len (xs : List Int) (a : Int) (k : Nat) : (scL xs a k).length = k := by simp [scL]
theorem tkL_get (xs : List Int) (k j : Nat) (h : j < k) : (tkL xs k).getD j 0 = xs.getD j 0 := by simp [tkL, List.getD, List.getElem?_range h]
theorem scL_get (xs : List Int) (a : Int) (k j : Nat) : (scL xs a k).getD j 0 = (tkL xs k).getD j 0 * a := by
  by_cases h : j < k
  · rw [tkL_get _ _ _ h]; simp [scL, List.getD, List.getElem?_range h]
  · have e1 : (tkL xs k)[j]? = none := List.getElem?_eq_none (by rw [tkL_len]; omega)
    have e2 : (scL xs a k)[j]? = none := List.getElem?_eq_none (by rw [scL_len]; omega)
    simp [List.getD, e1, e2]
theorem sl46 (A : Option Addr) (n c N : Nat) (hN : N ≤ n) (hc : n ≤ c) : ∃ A1,
    (∀ w, (Instr.sliceAt 46 (.slice A n c) none (some (.int .i64 (N : Int))) none).run Try.prog w = .ok (.slice A1 N c) w) ∧ ∀ b o, 0 < N → A = some ⟨b, o, none⟩ → A1 = some ⟨b, o, none⟩ := by
  have hu : Try.prog.underlying 46 = some (.slice (Try.prog.elem 46)) := by kernel_rfl
  have hs : ∀ w, (sizeOf (Try.prog.elem 46)).run Try.prog w = .ok 1 w := fun w => by kernel_rfl
  refine ⟨if c = 0 then A else A.map (·.add (0 * 1)), fun w => ?_, fun b o h e => ?_⟩
  · rw [run_sliceAt_slice _ _ _ _ _ _ hu, run_slice_h _ _ _ _ _ hu .i64 (N : Int) (by omega) (by omega), hs]
    simp [Result.andThen, sliced]
  · subst e
    rw [if_neg (by omega)]
    simp [Addr.add]
/-- Two own rows lie apart. -/
def Aprt (v u : Value) : Prop := ∀ j, v.ownBlock = some j → u.ownBlock ≠ some j
theorem Aprt.ne {v u : Value} (h : Aprt v u) : u.ownBlock = none ∨ u.ownBlock ≠ v.ownBlock := by
  cases hv : v.ownBlock with
  | none => cases hu : u.ownBlock with
    | none => exact .inl rfl
    | some k => exact .inr (by simp)
  | some k => exact .inr (h k hv)
theorem Aprt.symm {v u : Value} (h : Aprt v u) : Aprt u v := fun j hj e => h j e hj
theorem Aprt.step {v u v' : Value} {H : Nat} (h : Aprt v u) (hat : v'.ownBlock = v.ownBlock ∨ v'.ownBlock = some H) (hlt : ∀ j, u.ownBlock = some j → j < H) : Aprt v' u := by
  intro j hj e
  rcases hat with h1 | h1
  · exact h j (h1.symm.trans hj) e
  · have := hlt j e
    rw [h1] at hj
    simp only [Option.some.injEq] at hj
    omega
/-- What equal is asked of a number and its multiple. -/
theorem equal_s {K2 : Nat} {R R' : Value} (h : Scl K2 R R') (hK : K2 ≤ 9223372036854775807) : ∃ X Y U V : Int, R = .agg #[.int .i64 X, .int .i64 Y] ∧ R' = .agg #[.int .i64 U, .int .i64 V] ∧
    ∀ w, Calls Try.prog 29 #[.agg #[.int .i64 U, .int .i64 V], .agg #[.int .i64 X, .int .i64 Y], .int .i64 (K2 : Int)] w fun e w' => e = .returned (.bool true) ∧ Frm w w' NoB := by
  rcases h with ⟨rfl, rfl⟩ | ⟨X, Y, h1, h2, h3, rfl, rfl⟩
  · exact ⟨_, _, _, _, rfl, rfl, fun w => equal_zero w _⟩
  · exact ⟨_, _, _, _, rfl, rfl, fun w => equal_t w X Y K2 h1 h2 hK h3⟩

set_option maxHeartbeats 16000000 in
theorem stabilityScales_walk (A : Option Addr) (n c B : Nat) (xs : List Int) (d a : Int) (w : World) (hX : LS w A n B xs) (hc : n ≤ c) (ha : -128 ≤ a ∧ a ≤ 127) :
    Calls Try.prog 10 #[.slice A n c, .int .i64 d, .int .i8 a] w fun e w' => e = .returned (.bool true) ∧ Frm w w' NoB := by
  obtain ⟨N, hN⟩ : ∃ N, N = min n 60 := ⟨_, rfl⟩
  have hN0 : (if (60 : Int) < (n : Int) then (60 : Int) else (n : Int)) = (N : Int) := by split <;> omega
  have hN1 : N ≤ n := by omega
  have hN2 : N ≤ 60 := by omega
  obtain ⟨A1, sl, hA1⟩ := sl46 A n c N hN1 hc
  obtain ⟨i0, hi, hz0, hz1, hz2⟩ := info_parts int_info
  have hxr : ∀ j, j < (tkL xs N).length → -32768 ≤ (tkL xs N).getD j 0 ∧ (tkL xs N).getD j 0 ≤ 32767 := fun j hj => by
    rw [tkL_len] at hj
    obtain ⟨_, _, _, _, h⟩ := hX.pos (by omega)
    rw [tkL_get _ _ _ hj]
    exact (h j (by omega)).2
  have hsg : ∀ j, (scL xs a N).getD j 0 = (tkL xs N).getD j 0 * a := scL_get xs a N
  have hsl : (scL xs a N).length = (tkL xs N).length := by rw [scL_len, tkL_len]
  have htl : (tkL xs N).length ≤ 60 := by rw [tkL_len]; omega
  obtain ⟨p1, p2, p3, p4⟩ := sc_range hsg hsl htl hxr ha d
  obtain ⟨p5, p6⟩ := sc_al hsg hsl htl hxr ha d
  obtain ⟨p7, p8⟩ := sc_mo hsg hsl htl hxr ha d
  have hKb : a.natAbs * a.natAbs ≤ 128 * 128 := Nat.mul_le_mul (by omega) (by omega)
  obtain ⟨X1, Y1, U1, V1, r1, r2, E1⟩ := equal_s p6 (by omega)
  obtain ⟨X2, Y2, U2, V2, r3, r4, E2⟩ := equal_s p8 (by omega)
  have t1 : IntKind.i64.wrap a = a := IntWalk.i64_in _ (by omega)
  have t2 : IntKind.i64.wrap (-a) = -a := IntWalk.i64_in _ (by omega)
  have t3 : (if a < -a then -a else a) = (a.natAbs : Int) := by split <;> omega
  obtain ⟨K, hK⟩ : ∃ K, K = a.natAbs := ⟨_, rfl⟩
  rw [← hK] at p2 hKb E1 E2 t3
  obtain ⟨K2, hK2⟩ : ∃ K2, K2 = K * K := ⟨_, rfl⟩
  rw [← hK2] at hKb E1 E2
  have t4 : IntKind.i64.wrap ((K : Int) * (K : Int)) = (K2 : Int) := by rw [← Int.natCast_mul, ← hK2, IntWalk.i64_in _ (by omega)]
  obtain ⟨e0, he0⟩ : ∃ e, rgE (tkL xs N) d = e := ⟨_, rfl⟩
  obtain ⟨v0, hv0⟩ : ∃ e, rgV (tkL xs N) d = e := ⟨_, rfl⟩
  obtain ⟨v1, hv1⟩ : ∃ e, rgV (scL xs a N) d = e := ⟨_, rfl⟩
  obtain ⟨e1, he1⟩ : ∃ e, alE (tkL xs N) d = e := ⟨_, rfl⟩
  obtain ⟨e2, he2⟩ : ∃ e, moE (tkL xs N) d = e := ⟨_, rfl⟩
  rw [he0] at p1
  rw [hv0, hv1] at p2
  rw [hv1] at p3 p4
  rw [he1] at p5
  rw [he2] at p7
  have t5 : IntKind.i64.wrap (v0 * (K : Int)) = v1 := by rw [← p2]; exact IntWalk.i64_in _ (by omega)
  have HE0 := Lib.hid he0
  have HV0 := Lib.hid hv0
  have HV1 := Lib.hid hv1
  have HE1 := Lib.hid he1
  have HE2 := Lib.hid he2
  have P1 := Lib.hid p1
  have P5 := Lib.hid p5
  have P7 := Lib.hid p7
  have R1 := Lib.hid r1
  have R2 := Lib.hid r2
  have R3 := Lib.hid r3
  have R4 := Lib.hid r4
  have EQ1 := Lib.hid E1
  have EQ2 := Lib.hid E2
  have hF : Frm w w NoB := Frm.refl w _
  clear hN hxr hsg hsl htl p1 p2 p3 p4 p5 p6 p7 p8 hKb hK hK2 E1 E2 r1 r2 r3 r4 he0 hv0 hv1 he1 he2
  go_enter Try.func10, Try.ntmps10
  go_wp2
  go_loopw [7, 8, 10, 28] (fun v u _ i wr => ∃ k : Nat, k ≤ N ∧ i = .int .i64 k ∧ OwnI wr w.heap.size v k (tkL xs k) ∧ OwnI wr w.heap.size u k (scL xs a k) ∧ Aprt v u ∧ Frm w wr NoB) (fun _ _ _ i _ => N - (intOf i).toNat)
  case atStart => exact ⟨0, Nat.zero_le _, rfl, World.ownsRow_nil _ _ _ _, World.ownsRow_nil _ _ _ _, (by intro j hj; simp [Value.ownBlock] at hj), hF⟩
  case round =>
    clear hF
    obtain ⟨k, hk, rfl, hown, how2, hap, hF⟩ := hrel
    by_cases hlt : k < N
    · obtain ⟨bb, o, rfl, hbb, hcell⟩ := (hX.frm hF).pos (by omega)
      obtain rfl := hA1 bb o (by omega) rfl
      obtain ⟨q1, r1, r2⟩ := hcell k (by omega)
      have hsu := tkL_succ xs k
      have hsu2 := scL_succ xs a k
      obtain ⟨x, hx⟩ : ∃ x, x = xs.getD k 0 := ⟨_, rfl⟩
      rw [← hx] at q1 r1 r2 hsu hsu2
      have t6 : IntKind.i64.wrap x = x := IntWalk.i64_in _ (by omega)
      have hxa : (x * a).natAbs = x.natAbs * a.natAbs := Int.natAbs_mul _ _
      have hxb : x.natAbs * a.natAbs ≤ 32768 * 128 := Nat.mul_le_mul (by omega) (by omega)
      have t7 : IntKind.i64.wrap (x * a) = x * a := IntWalk.i64_in _ (by omega)
      obtain ⟨V, hV⟩ : ∃ V, V = x * a := ⟨_, rfl⟩
      rw [← hV] at hsu2
      replace t7 : IntKind.i64.wrap (x * a) = V := t7.trans hV.symm
      have HS := Lib.hid hsu
      have HS2 := Lib.hid hsu2
      have hk0 : (0 : Int) ≤ (k : Int) := Int.natCast_nonneg _
      have hk1 : (k : Int) < (N : Int) := by omega
      have hsz := hF.size
      clear hcell hsu hsu2 hx hxa hxb hV hX r1 r2 ha hA1 hc t2 t3 t4 t5 hN0 sl
      go_wp2_with (first
        | (at_builtin; refine wpList_append_own_at _ rfl _ _ 23 rfl w.heap.size 3 i0 (.int .i64 0) 1 8 Try.underlying23 hi hz0 hz1 hz2 rfl (by decide) _ _ _ rfl (hown.alloc _) ⟨wr.heap.size, 0, none⟩ 1 1 [.int .i64 x] rfl rfl ?c1 ?c2 ?c3 ?c4 ?c5 ?_)
        | go_in)
      case c1 => intro j u hj; match j, hj with | 0, hj => (simp at hj; subst hj; simp [Addr.add])
      case c2 => intro u hu; simp at hu; subst hu; rfl
      case c3 => unfold maxLen; omega
      case c4 => omega
      case c5 => simp; omega
      intro v' w1 hown' hgrow _ hat
      have hown3 : OwnI w1 w.heap.size v' (k + 1) (tkL xs (k + 1)) := by rw [HS.out]; simpa [OwnI] using hown'
      have how3 := (how2.alloc (.cells #[.int .i64 x] 3)).kept hgrow hap.ne
      have hap3 := hap.step hat (fun j hj => by have := (how2.lt j hj).2; simp; omega)
      have hF3 := (hF.alloc (.cells #[.int .i64 x] 3)).grown hgrow (fun j hj hlt => absurd (hown.lt j hj).1 (by omega))
      have hsz3 := hF3.size
      clear hown' hgrow hown hF how2 hap hat hsz
      go_wp2_with (first
        | (at_builtin; refine wpList_append_own_at _ rfl _ _ 23 rfl w.heap.size 3 i0 (.int .i64 0) 1 8 Try.underlying23 hi hz0 hz1 hz2 rfl (by decide) _ _ _ rfl (how3.alloc _) ⟨w1.heap.size, 0, none⟩ 1 1 [.int .i64 V] rfl rfl ?c1 ?c2 ?c3 ?c4 ?c5 ?_)
        | go_in)
      case c1 => intro j u hj; match j, hj with | 0, hj => (simp at hj; subst hj; simp [Addr.add])
      case c2 => intro u hu; simp at hu; subst hu; rfl
      case c3 => unfold maxLen; omega
      case c4 => omega
      case c5 => simp; omega
      intro u' w2 hown' hgrow _ hat
      have how5 : OwnI w2 w.heap.size u' (k + 1) (scL xs a (k + 1)) := by rw [HS2.out]; simpa [OwnI] using hown'
      have hown5 : OwnI w2 w.heap.size v' (k + 1) (tkL xs (k + 1)) := (hown3.alloc (.cells #[.int .i64 V] 3)).kept hgrow hap3.symm.ne
      have hap5 := (hap3.symm.step hat (fun j hj => by have := (hown3.lt j hj).2; simp; omega)).symm
      have hF5 := (hF3.alloc (.cells #[.int .i64 V] 3)).grown hgrow (fun j hj hlt => absurd (how3.lt j hj).1 (by omega))
      clear hown' hgrow hown3 how3 hF3 hap3 hat
      go_wp2
      go_roundw
      case rel => exact ⟨k + 1, by omega, by go_num, hown5, how5, hap5, hF5⟩
      case measure => simp [intOf]; omega
    · have hkn : k = N := by omega
      rw [hkn] at hown how2
      obtain ⟨A', c', rfl, hcc, hL⟩ := hown.li (by omega)
      obtain ⟨A2, c2, rfl, hc2, hM⟩ := how2.li (by omega)
      clear hkn hX hown how2 hap
      go_wp2_with (first
        | (go_at_call 13; (with_reducible refine (range_s HE0 HV0 hL hcc).mono ?_); rintro e x1 ⟨rfl, f1⟩; replace hL := hL.frm f1; replace hM := hM.frm f1; replace hF := hF.trans f1 (fun _ _ h => h); clear f1)
        | (go_at_call 13; (with_reducible refine (range_s P1 HV1 hM hc2).mono ?_); rintro e x2 ⟨rfl, f1⟩; replace hL := hL.frm f1; replace hM := hM.frm f1; replace hF := hF.trans f1 (fun _ _ h => h); clear f1)
        | (go_at_call 25; (with_reducible refine (allan_s HE1 R1 hL).mono ?_); rintro e x3 ⟨rfl, f1⟩; replace hL := (hL.frm f1).alloc (.cells #[.int .i64 X1, .int .i64 Y1] 41); replace hM := (hM.frm f1).alloc (.cells #[.int .i64 X1, .int .i64 Y1] 41); replace hF := (hF.trans f1 (fun _ _ h => h)).alloc (.cells #[.int .i64 X1, .int .i64 Y1] 41); have b1 := Blk.new x3 41 #[.int .i64 X1, .int .i64 Y1]; clear f1)
        | (go_at_call 25; (with_reducible refine (allan_s P5 R2 hM).mono ?_); rintro e x4 ⟨rfl, f1⟩; replace hL := (hL.frm f1).alloc (.cells #[.int .i64 U1, .int .i64 V1] 41); replace hM := (hM.frm f1).alloc (.cells #[.int .i64 U1, .int .i64 V1] 41); replace hF := (hF.trans f1 (fun _ _ h => h)).alloc (.cells #[.int .i64 U1, .int .i64 V1] 41); replace b1 := (b1.frm f1 (fun h => h)).alloc (.cells #[.int .i64 U1, .int .i64 V1] 41); have b2 := Blk.new x4 41 #[.int .i64 U1, .int .i64 V1]; clear f1)
        | (go_at_call 27; (with_reducible refine (modif_s HE2 R3 hL).mono ?_); rintro e x5 ⟨rfl, f1⟩; replace hL := (hL.frm f1).alloc (.cells #[.int .i64 X2, .int .i64 Y2] 41); replace hM := (hM.frm f1).alloc (.cells #[.int .i64 X2, .int .i64 Y2] 41); replace hF := (hF.trans f1 (fun _ _ h => h)).alloc (.cells #[.int .i64 X2, .int .i64 Y2] 41); replace b1 := (b1.frm f1 (fun h => h)).alloc (.cells #[.int .i64 X2, .int .i64 Y2] 41); replace b2 := (b2.frm f1 (fun h => h)).alloc (.cells #[.int .i64 X2, .int .i64 Y2] 41); have b3 := Blk.new x5 41 #[.int .i64 X2, .int .i64 Y2]; clear f1)
        | (go_at_call 27; (with_reducible refine (modif_s P7 R4 hM).mono ?_); rintro e x6 ⟨rfl, f1⟩; replace hL := (hL.frm f1).alloc (.cells #[.int .i64 U2, .int .i64 V2] 41); replace hM := (hM.frm f1).alloc (.cells #[.int .i64 U2, .int .i64 V2] 41); replace hF := (hF.trans f1 (fun _ _ h => h)).alloc (.cells #[.int .i64 U2, .int .i64 V2] 41); replace b1 := (b1.frm f1 (fun h => h)).alloc (.cells #[.int .i64 U2, .int .i64 V2] 41); replace b2 := (b2.frm f1 (fun h => h)).alloc (.cells #[.int .i64 U2, .int .i64 V2] 41); replace b3 := (b3.frm f1 (fun h => h)).alloc (.cells #[.int .i64 U2, .int .i64 V2] 41); have b4 := Blk.new x6 41 #[.int .i64 U2, .int .i64 V2]; clear f1 hL hM; have k1 := b1.cellIs (i := 0) rfl; have k2 := b1.cellIs (i := 1) rfl; have k3 := b2.cellIs (i := 0) rfl; have k4 := b2.cellIs (i := 1) rfl; have k5 := b3.cellIs (i := 0) rfl; have k6 := b3.cellIs (i := 1) rfl; have k7 := b4.cellIs (i := 0) rfl; have k8 := b4.cellIs (i := 1) rfl)
        | (go_at_call 29; (with_reducible refine (EQ1.out _).mono ?_); rintro e x7 ⟨rfl, f1⟩; replace hF := hF.trans f1 (fun _ _ h => h); replace b1 := b1.frm f1 (fun h => h); replace b2 := b2.frm f1 (fun h => h); replace b3 := b3.frm f1 (fun h => h); replace b4 := b4.frm f1 (fun h => h); clear f1; have k1 := b1.cellIs (i := 0) rfl; have k2 := b1.cellIs (i := 1) rfl; have k3 := b2.cellIs (i := 0) rfl; have k4 := b2.cellIs (i := 1) rfl; have k5 := b3.cellIs (i := 0) rfl; have k6 := b3.cellIs (i := 1) rfl; have k7 := b4.cellIs (i := 0) rfl; have k8 := b4.cellIs (i := 1) rfl)
        | (go_at_call 29; (with_reducible refine (EQ2.out _).mono ?_); rintro e x8 ⟨rfl, f1⟩; replace hF := hF.trans f1 (fun _ _ h => h); clear f1)
        | (go_at_call 16; (with_reducible refine (awake_t _).mono ?_); rintro e x9 ⟨rfl, f1⟩; replace hF := hF.trans f1 (fun _ _ h => h); clear f1))
      go_ret
      exact ⟨rfl, hF⟩
end Go.Proofs.Ythpakpljfgmkfaa
