/- PrngNobody and PrngApart return true, whatever the numbers. -/
import Derived.Test.YtcdadpbnmilgiaaW6
namespace Go.Proofs.Ytcdadpbnmilgiaa
open Go.RowKit PrngPure

set_option maxHeartbeats 1000000 in
theorem prngNobody_walk (a0 a1 : Int) (_w0 : (Lit.int .i64 a0).wf = true) (_w1 : (Lit.int .i64 a1).wf = true) (w : World) :
    Calls Try.prog 10 #[.int .i64 a0, .int .i64 a1] w fun e w' => e = .returned (.bool true) ∧ Frm w w' NoB := by
  clear _w0 _w1
  have hs : (mixI 0 (sc 0) == mixI 0 1) = true := by
    have : sc 0 = 1 := by decide
    rw [this]; simp
  have hb : Blk (w.alloc (.cells #[.int .u64 0, .int .u64 0] 53)) w.heap.size 53 #[.int .u64 0, .int .u64 0] := Blk.new _ _ _
  have hF : Frm w (w.alloc (.cells #[.int .u64 0, .int .u64 0] 53)) NoB := (Frm.refl _ _).alloc _
  go_enter Try.func10, Try.ntmps10
  go_wp2_with (first
    | (go_at_call 15; (with_reducible refine (next_nil _).mono ?_); rintro e x1 ⟨rfl, rfl⟩)
    | (go_at_call 16; (with_reducible refine (below_no none _ _ (.inl rfl)).mono ?_); rintro e x1 ⟨rfl, f1⟩; have hb := hb.frm f1 (fun e => e); have hF := hF.trans f1 (fun _ _ e => e))
    | (go_at_call 17; (with_reducible refine (range_nil _ _ _).mono ?_); rintro e x2 ⟨rfl, f1⟩; have hb := hb.frm f1 (fun e => e); have hF := hF.trans f1 (fun _ _ e => e))
    | (go_at_call 18; (with_reducible refine (perm_no none _ _ (.inl rfl)).mono ?_); rintro e x2 ⟨rfl, rfl⟩)
    | (go_at_call 25; (with_reducible refine (fork_nil _).mono ?_); rintro e x2 ⟨rfl, rfl⟩)
    | (go_at_call 15; (with_reducible refine (next_t _ _ _ _ hb).mono ?_); rintro e x2 ⟨rfl, hb, f1⟩; have hF := hF.trans f1 (fun i hi e => by omega))
    | (go_at_call 11; (with_reducible refine (mix_t _ _ _).mono ?_); rintro e x2 ⟨rfl, f1⟩; have hb := hb.frm f1 (fun e => e); have hF := hF.trans f1 (fun _ _ e => e))
    | (go_at_call 13; (with_reducible refine (awake_t _).mono ?_); rintro e x2 ⟨rfl, f1⟩; have hF := hF.trans f1 (fun _ _ e => e)))
  go_ret
  exact ⟨rfl, hF⟩

set_option maxHeartbeats 2000000 in
theorem prngApart_walk (a0 a1 a2 : Int) (_w0 : (Lit.int .u64 a0).wf = true) (w1 : (Lit.int .u8 a1).wf = true) (w2 : (Lit.int .i64 a2).wf = true) (w : World) :
    Calls Try.prog 9 #[.int .u64 a0, .int .u8 a1, .int .i64 a2] w fun e w' => e = .returned (.bool true) ∧ Frm w w' NoB := by
  have hb1 := wf_u8 w1
  have hb2 := wf_i64 w2
  obtain ⟨m, hm, hm'⟩ : ∃ m : Nat, a1 % 200 ≤ (m : Int) ∧ (m : Int) ≤ a1 % 200 := ⟨(a1 % 200).toNat, by omega, by omega⟩
  have hm3 : m < 200 := by omega
  have h0 : 0 ≤ a1 := hb1.1
  clear hb1 w1 w2 _w0
  go_enter Try.func9, Try.ntmps9
  go_wp2_with (first
    | (go_at_call 14; (with_reducible refine (new_t _ w).mono ?_); rintro e x1 ⟨rfl, bs, f1⟩)
    | (go_at_call 14; (with_reducible refine (new_t _ x1).mono ?_); rintro e x2 ⟨rfl, bt, f2⟩; have bs2 := bs.frm f2 (fun e => e); have g2 := f1.trans f2 (fun _ _ e => e))
    | (go_at_call 25; (with_reducible refine (fork_t _ _ _ _ bs2).mono ?_); rintro e x3 ⟨gf, rfl, hgf, bf, bs3, f3⟩; have l1 := bs.lt; have l2 := bt.lt; have l3 := bf.lt; have bt3 := bt.frm f3 (by omega); have g3 := g2.trans f3 (fun i hi e => by omega))
    | (go_at_call 15; (with_reducible refine (next_t _ _ _ _ bt3).mono ?_); rintro e x4 ⟨rfl, bt4, f4⟩; have bs4 := bs3.frm f4 (by omega); have bf4 := bf.frm f4 (by omega); have g4 := g3.trans f4 (fun i hi e => by omega))
    | (go_at_call 14; (with_reducible refine (new_t _ x4).mono ?_); rintro e x5 ⟨rfl, bg5, f5⟩; have bs5 := bs4.frm f5 (fun e => e); have bt5 := bt4.frm f5 (fun e => e); have bf5 := bf4.frm f5 (fun e => e); have g5 := g4.trans f5 (fun _ _ e => e)))
  have l5 := f4.size
  have l6 := bt4.lt
  obtain ⟨S, hS⟩ : ∃ S, S = mixI a0 0 := ⟨_, rfl⟩
  rw [← hS] at bf5 bg5
  clear hS
  go_loopw [34] (fun i wr => ∃ (k : Nat) (c : Int), k ≤ m ∧ i = .int .u8 k ∧ Blk wr w.heap.size 53 #[.int .u64 a0, .int .u64 (sc 0)] ∧ Blk wr x1.heap.size 53 #[.int .u64 a0, .int .u64 (sc 0)] ∧
    Blk wr gf 53 #[.int .u64 S, .int .u64 c] ∧ Blk wr x4.heap.size 53 #[.int .u64 S, .int .u64 c] ∧ Frm w wr NoB) (fun i _ => m - (intOf i).toNat)
  case atStart => exact ⟨0, 0, Nat.zero_le _, rfl, bs5, bt5, bf5, bg5, g5⟩
  case round =>
    obtain ⟨k, c, hk, rfl, ks, kt, kf, kg, hF⟩ := hrel
    clear bs bt f1 f2 bs2 g2 bf bs3 f3 bt3 g3 bt4 f4 bs4 bf4 g4 bg5 f5 bs5 bt5 bf5 g5
    by_cases hlt : k < m
    · by_cases h1 : 1 ≤ a2
      · go_wp2_with (first
          | (go_at_call 15; (with_reducible refine (next_t gf _ _ _ kf).mono ?_); rintro e y1 ⟨rfl, kf, f1⟩; have ks := ks.frm f1 (by omega); have kt := kt.frm f1 (by omega); have kg := kg.frm f1 (by omega); have hF := hF.trans f1 (fun i hi e => by omega))
          | (go_at_call 15; (with_reducible refine (next_t x4.heap.size _ _ _ kg).mono ?_); rintro e y1 ⟨rfl, kg, f1⟩; have ks := ks.frm f1 (by omega); have kt := kt.frm f1 (by omega); have kf := kf.frm f1 (by omega); have hF := hF.trans f1 (fun i hi e => by omega))
          | (go_at_call 16; (with_reducible refine (below_yes gf _ _ _ _ (by omega) (by omega) kf).mono ?_); rintro e y1 ⟨rfl, kf, f1⟩; have ks := ks.frm f1 (by omega); have kt := kt.frm f1 (by omega); have kg := kg.frm f1 (by omega); have hF := hF.trans f1 (fun i hi e => by omega))
          | (go_at_call 16; (with_reducible refine (below_yes x4.heap.size _ _ _ _ (by omega) (by omega) kg).mono ?_); rintro e y1 ⟨rfl, kg, f1⟩; have ks := ks.frm f1 (by omega); have kt := kt.frm f1 (by omega); have kf := kf.frm f1 (by omega); have hF := hF.trans f1 (fun i hi e => by omega)))
        go_roundw
        case rel => exact ⟨k + 1, sc (sc c), by omega, by go_num, ks, kt, kf, kg, hF⟩
        case measure => simp [intOf]; omega
      · go_wp2_with (first
          | (go_at_call 15; (with_reducible refine (next_t gf _ _ _ kf).mono ?_); rintro e y1 ⟨rfl, kf, f1⟩; have ks := ks.frm f1 (by omega); have kt := kt.frm f1 (by omega); have kg := kg.frm f1 (by omega); have hF := hF.trans f1 (fun i hi e => by omega))
          | (go_at_call 15; (with_reducible refine (next_t x4.heap.size _ _ _ kg).mono ?_); rintro e y1 ⟨rfl, kg, f1⟩; have ks := ks.frm f1 (by omega); have kt := kt.frm f1 (by omega); have kf := kf.frm f1 (by omega); have hF := hF.trans f1 (fun i hi e => by omega))
          | (go_at_call 16; (with_reducible refine (below_no _ _ _ (.inr (by omega))).mono ?_); rintro e y1 ⟨rfl, f1⟩; have ks := ks.frm f1 (fun e => e); have kt := kt.frm f1 (fun e => e); have kf := kf.frm f1 (fun e => e); have kg := kg.frm f1 (fun e => e); have hF := hF.trans f1 (fun i hi e => e)))
        go_roundw
        case rel => exact ⟨k + 1, sc c, by omega, by go_num, ks, kt, kf, kg, hF⟩
        case measure => simp [intOf]; omega
    · clear kf kg
      go_wp2_with (first
        | (go_at_call 15; (with_reducible refine (next_t w.heap.size _ _ _ ks).mono ?_); rintro e y1 ⟨rfl, ks, f1⟩; have kt := kt.frm f1 (by omega); have hF := hF.trans f1 (fun i hi e => by omega))
        | (go_at_call 15; (with_reducible refine (next_t x1.heap.size _ _ _ kt).mono ?_); rintro e y1 ⟨rfl, kt, f1⟩; have ks := ks.frm f1 (by omega); have hF := hF.trans f1 (fun i hi e => by omega))
        | (go_at_call 13; (with_reducible refine (awake_t _).mono ?_); rintro e y1 ⟨rfl, f1⟩; have hF := hF.trans f1 (fun _ _ e => e)))
      go_ret
      exact ⟨rfl, hF⟩
end Go.Proofs.Ytcdadpbnmilgiaa
