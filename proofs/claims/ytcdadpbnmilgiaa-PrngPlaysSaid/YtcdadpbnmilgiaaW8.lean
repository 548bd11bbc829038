/- PrngPlays: the walk. -/
import Derived.Test.YtcdadpbnmilgiaaW7
namespace Go.Proofs.Ytcdadpbnmilgiaa
open Go.RowKit PrngPure

section
variable {P : Program} {md : Region.Mode} {ops : Array Oper} {Q : Exit → Act → World → Prop} {S : World → Prop} {fuel : Nat} {listed : Array Bool} {tm : List Value} {ds : List Deferred} {w : World}
/-- An operation that yields v in every world that meets S is taken first. -/
theorem takeH (i d : Nat) (v : Value) (hd : (ops[i]?).map (·.dst) = some (some d)) (hw : (ops[i]?).map (fun o => Region.wanted o (yielded ops tm.toArray)) = some true)
    (hs : Region.noSelect ops = true) (hf : Region.free md ops listed i = true) (hr : (Region.ready md ops listed).contains i = true)
    (hQ : ∀ c a w, Q (.panic c) { a with tmps := a.tmps.setIfInBounds d v } w → Q (.panic c) a w)
    (hy : ∀ oi, ops[i]? = some oi → ∀ w, S w → (execOp (Act.eval ⟨tm.toArray, ds⟩) oi).run P w = .ok (.value v) w) (hS : S w)
    (h : wpAnyH P md ops Q S fuel (listed.setIfInBounds i true) ⟨(tm.set d v).toArray, ds⟩ w) : wpAnyH P md ops Q S (fuel + 1) listed ⟨tm.toArray, ds⟩ w := by
  cases ho : ops[i]? with
  | none => rw [ho] at hd; cases hd
  | some oi =>
    rw [ho] at hd hw
    have hd' : oi.dst = some d := by simpa using hd
    have hw' : Region.wanted oi (yielded ops tm.toArray) = true := by simpa using hw
    have e : ∀ (a : Act) (v : Value), a.put oi.dst v = { a with tmps := a.tmps.setIfInBounds d v } := fun a v => by rw [hd']; rfl
    refine wpAnyH_take (v := v) ho hs hf hr (fun c a w hh => hQ c a w (by rw [← e]; exact hh)) (Or.inl ⟨hw', hy oi ho⟩) hS ?_
    rw [e]
    simpa using h
end

/-- A deed. -/
structure Dd where
  on : Int
  kind : Int
  a : Int
  b : Int
def Dd.z : Dd := ⟨0, 0, 0, 0⟩
/-- The cells of a deed. -/
def Dd.cs (d : Dd) : Array Value := #[.int .i64 d.on, .int .i64 d.kind, .int .i64 d.a, .int .i64 d.b]
/-- A slice of deeds reads as ds, in memory below block B. -/
def RdD (w : World) (B : Nat) (A : Option Addr) (ds : List Dd) : Prop :=
  ds = [] ∨ ∃ b o, A = some ⟨b, o, none⟩ ∧ b < B ∧ ∀ j, j < ds.length → w.cell? ⟨b, o + j * 4, none⟩ = some (.int .i64 (ds.getD j Dd.z).on) ∧ w.cell? ⟨b, o + j * 4 + 1, none⟩ = some (.int .i64 (ds.getD j Dd.z).kind) ∧
    w.cell? ⟨b, o + j * 4 + 2, none⟩ = some (.int .i64 (ds.getD j Dd.z).a) ∧ w.cell? ⟨b, o + j * 4 + 3, none⟩ = some (.int .i64 (ds.getD j Dd.z).b) ∧ (ds.getD j Dd.z).a ≤ 9223372036854775807
theorem sl_t (A : Option Addr) (m c N : Nat) (hN : N ≤ m) (hc : m ≤ c) : ∃ A1,
    (∀ w, (Instr.sliceAt 40 (.slice A m c) none (some (.int .i64 (N : Int))) none).run Try.prog w = .ok (.slice A1 N c) w) ∧ ∀ b o, 0 < N → A = some ⟨b, o, none⟩ → A1 = some ⟨b, o, none⟩ := by
  have hu : Try.prog.underlying 40 = some (.slice (Try.prog.elem 40)) := by kernel_rfl
  have hs : ∀ w, (sizeOf (Try.prog.elem 40)).run Try.prog w = .ok 4 w := fun w => by kernel_rfl
  refine ⟨if c = 0 then A else A.map (·.add (0 * 4)), fun w => ?_, fun b o h e => ?_⟩
  · rw [run_sliceAt_slice _ _ _ _ _ _ hu, run_slice_h _ _ _ _ _ hu .i64 (N : Int) (by omega) (by omega), hs]
    simp [Result.andThen, sliced]
  · subst e
    rw [if_neg (by omega)]
    simp [Addr.add]

theorem row1 {w : World} {base g f : Nat} {te : TypeId} (h : Blk w g te #[.pointer (some ⟨f, 0, none⟩)]) (hg : base ≤ g) : w.ownsRow base te 1 (.slice (some ⟨g, 0, none⟩) 1 1) 1 (ptrs 1 (fun _ => f)) :=
  ⟨by simp [ptrs], .inr ⟨g, 1, _, rfl, hg, h, Nat.le_refl _, by decide, rfl, by simp [ptrs]⟩⟩

theorem eql_none (w : World) : Calls Try.prog 19 #[.slice none 0 0, .slice none 0 0] w fun e w' => e = .returned (.bool true) ∧ Frm w w' NoB :=
  eql_same none none 0 0 0 0 0 [] [] w (by omega) (show Hid (([] : List Int).length = 0) from rfl) (show Hid (([] : List Int).length = 0) from rfl) (show RdI w 0 none [] from Or.inl rfl) (show RdI w 0 none [] from Or.inl rfl) (Nat.zero_le _) (Nat.zero_le _)
theorem prm_len (s c : Int) (n : Nat) (h2 : n ≤ 4096) : (prm s c n).1.length = n :=
  (permGo_once (pk s) sc (fun c i h => pk_le s c i h) n h2 c).1
set_option linter.unusedSimpArgs false in
set_option maxRecDepth 100000 in
set_option maxHeartbeats 16000000 in
theorem prngPlays_walk (seed : Int) (A : Option Addr) (m c B : Nat) (ds : List Dd) (w : World) (hmc : m ≤ c) (hm : ds.length = m) (hD : RdD w B A ds) (hB : B ≤ w.heap.size) :
    Calls Try.prog 8 #[.int .u64 seed, .slice A m c] w fun e w' => e = .returned (.bool true) ∧ Frm w w' NoB := by
  obtain ⟨N, hN0, hN1, hN2⟩ : ∃ N : Nat, (if (200 : Int) < (m : Int) then (200 : Int) else (m : Int)) = (N : Int) ∧ N ≤ m ∧ N ≤ 200 := ⟨min m 200, by split <;> omega, by omega, by omega⟩
  obtain ⟨A1, sl, hA1⟩ := sl_t A m c N hN1 hmc
  go_enter Try.func8, Try.ntmps8
  go_wp2_with (first
    | (go_at_call 14; (with_reducible refine (new_t _ w).mono ?_); rintro e x1 ⟨rfl, bs, f1⟩)
    | (go_at_call 20; (with_reducible refine (rnew_t _ _).mono ?_); rintro e x2 ⟨rfl, bt, f2⟩))
  have s1 : w.heap.size ≤ x1.heap.size := f1.size
  have s2 : x1.heap.size + 1 ≤ x2.heap.size := by have := f2.size; simpa using this
  have hL0 : Side 53 27 w (x2.alloc (.cells #[.pointer (some ⟨x1.heap.size + 1, 0, none⟩)] 42)) (.slice (some ⟨x1.heap.size, 0, none⟩) 1 1) 1 1 (fun _ => w.heap.size) (fun _ => (seed, 0)) := by
    have hb : Blk x2 x1.heap.size 27 #[.pointer (some ⟨w.heap.size, 0, none⟩)] := (Blk.new x1 27 _).frm f2 (fun e => e)
    exact ⟨row1 (hb.alloc _) s1, fun j _ _ => ((bs.alloc _).frm f2 (fun e => e)).alloc _, fun _ _ => Nat.le_refl _, fun j k hj hk _ => by omega⟩
  have hR0 : Side 62 42 w (x2.alloc (.cells #[.pointer (some ⟨x1.heap.size + 1, 0, none⟩)] 42)) (.slice (some ⟨x2.heap.size, 0, none⟩) 1 1) 1 1 (fun _ => x1.heap.size + 1) (fun _ => (seed, 0)) := by
    have hb : Blk (x2.alloc (.cells #[.pointer (some ⟨x1.heap.size + 1, 0, none⟩)] 42)) x2.heap.size 42 #[.pointer (some ⟨x1.heap.size + 1, 0, none⟩)] := Blk.new _ _ _
    exact ⟨row1 hb (by omega), fun j _ _ => by
      have := bt.alloc (.cells #[.pointer (some ⟨x1.heap.size + 1, 0, none⟩)] 42)
      simpa using this, fun _ _ => by omega, fun j k hj hk _ => by omega⟩
  have hF0 : Frm w (x2.alloc (.cells #[.pointer (some ⟨x1.heap.size + 1, 0, none⟩)] 42)) NoB := ((f1.alloc _).trans f2 (fun _ _ h => h)).alloc _
  clear bs bt f1 f2 s1 s2
  go_loopw [5, 6, 24] (fun v u i wr => ∃ (k n : Nat) (G H : Nat → Nat) (K : Nat → Int × Int), k ≤ N ∧ i = .int .i64 k ∧ 1 ≤ n ∧ n ≤ k + 1 ∧ Side 53 27 w wr v n n G K ∧ Side 62 42 w wr u n n H K ∧ Frm w wr NoB) (fun _ _ i _ => N - (intOf i).toNat)
  case atStart => exact ⟨0, 1, _, _, _, Nat.zero_le _, rfl, Nat.le_refl _, Nat.le_refl _, hL0, hR0, hF0⟩
  case round =>
    clear hL0 hR0 hF0
    obtain ⟨k, n, G, H, K, hk, rfl, hn1, hnk, hL, hR, hF⟩ := hrel
    by_cases hlt : k < N
    · obtain ⟨gv, cpv, cv, rfl, hOv, hcv, hgv⟩ := hL.form (by omega)
      obtain ⟨gu, cpu, cu, rfl, hOu, hcu, hgu⟩ := hR.form (by omega)
      obtain ⟨b, o, rfl, hb, hcell⟩ : ∃ b o, A = some ⟨b, o, none⟩ ∧ b < B ∧ ∀ j, j < ds.length → w.cell? ⟨b, o + j * 4, none⟩ = some (.int .i64 (ds.getD j Dd.z).on) ∧ w.cell? ⟨b, o + j * 4 + 1, none⟩ = some (.int .i64 (ds.getD j Dd.z).kind) ∧
          w.cell? ⟨b, o + j * 4 + 2, none⟩ = some (.int .i64 (ds.getD j Dd.z).a) ∧ w.cell? ⟨b, o + j * 4 + 3, none⟩ = some (.int .i64 (ds.getD j Dd.z).b) ∧ (ds.getD j Dd.z).a ≤ 9223372036854775807 := by
        rcases hD with h | h
        · subst h; simp at hm; omega
        · exact h
      obtain rfl := hA1 b o (by omega) rfl
      obtain ⟨q0, q1, q2, q3, q4⟩ := hcell k (by omega)
      generalize ds.getD k Dd.z = d at q0 q1 q2 q3 q4
      obtain ⟨on, kind, da, db⟩ := d
      simp only at q0 q1 q2 q3 q4
      have hbw : b < w.heap.size := by omega
      replace q0 := (hF.cell (p := ⟨b, o + k * 4, none⟩) hbw (fun h => h)).trans q0
      replace q1 := (hF.cell (p := ⟨b, o + k * 4 + 1, none⟩) hbw (fun h => h)).trans q1
      replace q2 := (hF.cell (p := ⟨b, o + k * 4 + 2, none⟩) hbw (fun h => h)).trans q2
      replace q3 := (hF.cell (p := ⟨b, o + k * 4 + 3, none⟩) hbw (fun h => h)).trans q3
      have hbox : Blk (wr.alloc (.cells #[.int .i64 on, .int .i64 kind, .int .i64 da, .int .i64 db] 46)) wr.heap.size 46 #[.int .i64 on, .int .i64 kind, .int .i64 da, .int .i64 db] := Blk.new _ _ _
      have d0 := hbox.cellIs (i := 0) rfl
      have d1 := hbox.cellIs (i := 1) rfl
      have d2 := hbox.cellIs (i := 2) rfl
      have d3 := hbox.cellIs (i := 3) rfl
      have hk0 : (0 : Int) ≤ (k : Int) := Int.natCast_nonneg _
      have hk1 : (k : Int) < (N : Int) := by omega
      clear hcell hD
      obtain ⟨i, hix, hin⟩ : ∃ i : Nat, wrap64 ((IntKind.u64.wrap on).tmod (n : Int)) = (i : Int) ∧ i < n := by
        have h0 := wrap_u64_nonneg on
        rw [Int.tmod_eq_emod_of_nonneg h0]
        have h1 := Int.emod_nonneg (IntKind.u64.wrap on) (show (n : Int) ≠ 0 by omega)
        have h2 := Int.emod_lt_of_pos (IntKind.u64.wrap on) (show (0 : Int) < (n : Int) by omega)
        generalize (IntKind.u64.wrap on) % (n : Int) = x at h1 h2
        exact ⟨x.toNat, by rw [IntWalk.wrap64_in _ (by omega)]; omega, by omega⟩
      have hi0 : (0 : Int) ≤ (i : Int) := Int.natCast_nonneg _
      have hi1 : (i : Int) < (n : Int) := by omega
      obtain ⟨hL1, bg⟩ := hL.lay hin
      obtain ⟨hR1, bh⟩ := hR.lay hin
      obtain ⟨⟨s, c0⟩, hsc⟩ : ∃ p, p = K i := ⟨_, rfl⟩
      rw [← hsc] at bg bh
      simp only at bg bh
      have fA := ((Frm.refl wr NoB).alloc (.cells #[.int .i64 on, .int .i64 kind, .int .i64 da, .int .i64 db] 46)).drew
      replace hL1 := hL1.off fA Off.none
      replace hR1 := hR1.off fA Off.none
      replace bg := bg.frm fA (fun h => h)
      replace bh := bh.frm fA (fun h => h)
      replace hOv := hOv.frm fA (fun h => h)
      replace hOu := hOu.frm fA (fun h => h)
      replace hF := hF.trans fA (fun _ _ h => h)
      have hci := hcv i hin
      have hcj := hcu i hin
      have qv : (wr.alloc (.cells #[.int .i64 on, .int .i64 kind, .int .i64 da, .int .i64 db] 46)).cell? ⟨gv, i, none⟩ = _ := hOv.cellIs hci
      have qu : (wr.alloc (.cells #[.int .i64 on, .int .i64 kind, .int .i64 da, .int .i64 db] 46)).cell? ⟨gu, i, none⟩ = _ := hOu.cellIs hcj
      replace hbox := hbox.drew
      clear fA hL hR hsc hcv hcu
      by_cases k0 : kind = 0
      · subst k0
        go_wp2
        try rw [hix]
        go_region_held3 (fun w' => w'.cell? ⟨gv, i, none⟩ = some (.pointer (some ⟨G i, 0, none⟩)) ∧ w'.cell? ⟨gu, i, none⟩ = some (.pointer (some ⟨H i, 0, none⟩)) ∧ w'.cell? ⟨wr.heap.size, 2, none⟩ = some (.int .i64 da) ∧ w'.cell? ⟨wr.heap.size, 3, none⟩ = some (.int .i64 db)) (exact ⟨hOv.cellIs hci, hOu.cellIs hcj, hbox.cellIs (i := 2) rfl, hbox.cellIs (i := 3) rfl⟩) (first
                  | (go_at_call 15; (with_reducible refine (next_t (G i) s _ _ bg).mono ?_); rintro e y ⟨rfl, b2, f1⟩; (try (replace hP2 := hP2.frm f1 (Blk.ne hP2 bg (by decide)))); replace hR1 := hR1.off f1 (Off.of bg (by decide) (by decide)); replace bh := bh.frm f1 (Blk.ne bh bg (by decide)); replace hOu := hOu.frm f1 (Blk.ne hOu bg (by decide)); replace hOv := hOv.frm f1 (Blk.ne hOv bg (by decide)); (try (replace hbox := hbox.frm f1 (Blk.ne hbox bg (by decide)))); replace hL1 := hL1.own (by decide) hin bg f1; replace hF := hF.trans f1 (fun j hj e => absurd hj (by have := hL1.low i hin; omega)); replace bg := b2; clear f1)
                  | (go_at_call 21; (with_reducible refine (rnext_t (H i) s _ _ bh).mono ?_); rintro e y ⟨rfl, b2, f1⟩; (try (replace hP1 := hP1.frm f1 (Blk.ne hP1 bh (by decide)))); replace hL1 := hL1.off f1 (Off.of bh (by decide) (by decide)); replace bg := bg.frm f1 (Blk.ne bg bh (by decide)); replace hOu := hOu.frm f1 (Blk.ne hOu bh (by decide)); replace hOv := hOv.frm f1 (Blk.ne hOv bh (by decide)); (try (replace hbox := hbox.frm f1 (Blk.ne hbox bh (by decide)))); replace hR1 := hR1.own (by decide) hin bh f1; replace hF := hF.trans f1 (fun j hj e => absurd hj (by have := hR1.low i hin; omega)); replace bh := b2; clear f1))
        all_goals
          go_wp2
          go_roundw
          case rel => exact ⟨k + 1, n, G, H, _, by omega, by go_num, hn1, by omega, hL1.shut bg, hR1.shut bh, hF⟩
          case measure => simp [intOf]; omega
      by_cases k1 : kind = 1
      · subst k1
        by_cases ha : 1 ≤ da
        · go_wp2
          try rw [hix]
          go_region_held3 (fun w' => w'.cell? ⟨gv, i, none⟩ = some (.pointer (some ⟨G i, 0, none⟩)) ∧ w'.cell? ⟨gu, i, none⟩ = some (.pointer (some ⟨H i, 0, none⟩)) ∧ w'.cell? ⟨wr.heap.size, 2, none⟩ = some (.int .i64 da) ∧ w'.cell? ⟨wr.heap.size, 3, none⟩ = some (.int .i64 db)) (exact ⟨hOv.cellIs hci, hOu.cellIs hcj, hbox.cellIs (i := 2) rfl, hbox.cellIs (i := 3) rfl⟩) (first
                      | (go_at_call 16; (with_reducible refine (below_yes (G i) s _ _ _ ha q4 bg).mono ?_); rintro e y ⟨rfl, b2, f1⟩; (try (replace hP2 := hP2.frm f1 (Blk.ne hP2 bg (by decide)))); replace hR1 := hR1.off f1 (Off.of bg (by decide) (by decide)); replace bh := bh.frm f1 (Blk.ne bh bg (by decide)); replace hOu := hOu.frm f1 (Blk.ne hOu bg (by decide)); replace hOv := hOv.frm f1 (Blk.ne hOv bg (by decide)); (try (replace hbox := hbox.frm f1 (Blk.ne hbox bg (by decide)))); replace hL1 := hL1.own (by decide) hin bg f1; replace hF := hF.trans f1 (fun j hj e => absurd hj (by have := hL1.low i hin; omega)); replace bg := b2; clear f1)
                      | (go_at_call 22; (with_reducible refine (rbelow_yes (H i) s _ _ _ ha q4 bh).mono ?_); rintro e y ⟨rfl, b2, f1⟩; (try (replace hP1 := hP1.frm f1 (Blk.ne hP1 bh (by decide)))); replace hL1 := hL1.off f1 (Off.of bh (by decide) (by decide)); replace bg := bg.frm f1 (Blk.ne bg bh (by decide)); replace hOu := hOu.frm f1 (Blk.ne hOu bh (by decide)); replace hOv := hOv.frm f1 (Blk.ne hOv bh (by decide)); (try (replace hbox := hbox.frm f1 (Blk.ne hbox bh (by decide)))); replace hR1 := hR1.own (by decide) hin bh f1; replace hF := hF.trans f1 (fun j hj e => absurd hj (by have := hR1.low i hin; omega)); replace bh := b2; clear f1))
          all_goals
            go_wp2
            go_roundw
            case rel => exact ⟨k + 1, n, G, H, _, by omega, by go_num, hn1, by omega, hL1.shut bg, hR1.shut bh, hF⟩
            case measure => simp [intOf]; omega
        · have ha2 : da < 1 := by omega
          go_wp2
          try rw [hix]
          go_region_held3 (fun w' => w'.cell? ⟨gv, i, none⟩ = some (.pointer (some ⟨G i, 0, none⟩)) ∧ w'.cell? ⟨gu, i, none⟩ = some (.pointer (some ⟨H i, 0, none⟩)) ∧ w'.cell? ⟨wr.heap.size, 2, none⟩ = some (.int .i64 da) ∧ w'.cell? ⟨wr.heap.size, 3, none⟩ = some (.int .i64 db)) (exact ⟨hOv.cellIs hci, hOu.cellIs hcj, hbox.cellIs (i := 2) rfl, hbox.cellIs (i := 3) rfl⟩) (first
                      | (go_at_call 16; (with_reducible refine (below_no _ _ _ (.inr ha2)).mono ?_); rintro e y ⟨rfl, f1⟩; replace hR1 := hR1.off f1 Off.none; replace bh := bh.frm f1 (fun h => h); replace bg := bg.frm f1 (fun h => h); replace hOu := hOu.frm f1 (fun h => h); replace hOv := hOv.frm f1 (fun h => h); (try (replace hbox := hbox.frm f1 (fun h => h))); replace hL1 := hL1.off f1 Off.none; replace hF := hF.trans f1 (fun _ _ h => h); clear f1)
                      | (go_at_call 22; (with_reducible refine (rbelow_no _ _ _ ha2).mono ?_); rintro e y ⟨rfl, f1⟩; replace hR1 := hR1.off f1 Off.none; replace bh := bh.frm f1 (fun h => h); replace bg := bg.frm f1 (fun h => h); replace hOu := hOu.frm f1 (fun h => h); replace hOv := hOv.frm f1 (fun h => h); (try (replace hbox := hbox.frm f1 (fun h => h))); replace hL1 := hL1.off f1 Off.none; replace hF := hF.trans f1 (fun _ _ h => h); clear f1))
          all_goals
            go_wp2
            go_roundw
            case rel => exact ⟨k + 1, n, G, H, _, by omega, by go_num, hn1, by omega, hL1.shut bg, hR1.shut bh, hF⟩
            case measure => simp [intOf]; omega
      by_cases k2 : kind = 2
      · subst k2
        by_cases ha : da ≤ db
        · go_wp2
          try rw [hix]
          go_region_held3 (fun w' => w'.cell? ⟨gv, i, none⟩ = some (.pointer (some ⟨G i, 0, none⟩)) ∧ w'.cell? ⟨gu, i, none⟩ = some (.pointer (some ⟨H i, 0, none⟩)) ∧ w'.cell? ⟨wr.heap.size, 2, none⟩ = some (.int .i64 da) ∧ w'.cell? ⟨wr.heap.size, 3, none⟩ = some (.int .i64 db)) (exact ⟨hOv.cellIs hci, hOu.cellIs hcj, hbox.cellIs (i := 2) rfl, hbox.cellIs (i := 3) rfl⟩) (first
                      | (go_at_call 17; (with_reducible refine (range_yes (G i) s _ _ _ _ ha bg).mono ?_); rintro e y ⟨rfl, b2, f1⟩; (try (replace hP2 := hP2.frm f1 (Blk.ne hP2 bg (by decide)))); replace hR1 := hR1.off f1 (Off.of bg (by decide) (by decide)); replace bh := bh.frm f1 (Blk.ne bh bg (by decide)); replace hOu := hOu.frm f1 (Blk.ne hOu bg (by decide)); replace hOv := hOv.frm f1 (Blk.ne hOv bg (by decide)); (try (replace hbox := hbox.frm f1 (Blk.ne hbox bg (by decide)))); replace hL1 := hL1.own (by decide) hin bg f1; replace hF := hF.trans f1 (fun j hj e => absurd hj (by have := hL1.low i hin; omega)); replace bg := b2; clear f1)
                      | (go_at_call 23; (with_reducible refine (rrange_yes (H i) s _ _ _ _ ha bh).mono ?_); rintro e y ⟨rfl, b2, f1⟩; (try (replace hP1 := hP1.frm f1 (Blk.ne hP1 bh (by decide)))); replace hL1 := hL1.off f1 (Off.of bh (by decide) (by decide)); replace bg := bg.frm f1 (Blk.ne bg bh (by decide)); replace hOu := hOu.frm f1 (Blk.ne hOu bh (by decide)); replace hOv := hOv.frm f1 (Blk.ne hOv bh (by decide)); (try (replace hbox := hbox.frm f1 (Blk.ne hbox bh (by decide)))); replace hR1 := hR1.own (by decide) hin bh f1; replace hF := hF.trans f1 (fun j hj e => absurd hj (by have := hR1.low i hin; omega)); replace bh := b2; clear f1))
          all_goals
            go_wp2
            go_roundw
            case rel => exact ⟨k + 1, n, G, H, _, by omega, by go_num, hn1, by omega, hL1.shut bg, hR1.shut bh, hF⟩
            case measure => simp [intOf]; omega
        · have ha2 : db < da := by omega
          go_wp2
          try rw [hix]
          go_region_held3 (fun w' => w'.cell? ⟨gv, i, none⟩ = some (.pointer (some ⟨G i, 0, none⟩)) ∧ w'.cell? ⟨gu, i, none⟩ = some (.pointer (some ⟨H i, 0, none⟩)) ∧ w'.cell? ⟨wr.heap.size, 2, none⟩ = some (.int .i64 da) ∧ w'.cell? ⟨wr.heap.size, 3, none⟩ = some (.int .i64 db)) (exact ⟨hOv.cellIs hci, hOu.cellIs hcj, hbox.cellIs (i := 2) rfl, hbox.cellIs (i := 3) rfl⟩) (first
                      | (go_at_call 17; (with_reducible refine (range_no _ _ _ _ ha2).mono ?_); rintro e y ⟨rfl, f1⟩; replace hR1 := hR1.off f1 Off.none; replace bh := bh.frm f1 (fun h => h); replace bg := bg.frm f1 (fun h => h); replace hOu := hOu.frm f1 (fun h => h); replace hOv := hOv.frm f1 (fun h => h); (try (replace hbox := hbox.frm f1 (fun h => h))); replace hL1 := hL1.off f1 Off.none; replace hF := hF.trans f1 (fun _ _ h => h); clear f1)
                      | (go_at_call 23; (with_reducible refine (rrange_no _ _ _ _ ha2).mono ?_); rintro e y ⟨rfl, f1⟩; replace hR1 := hR1.off f1 Off.none; replace bh := bh.frm f1 (fun h => h); replace bg := bg.frm f1 (fun h => h); replace hOu := hOu.frm f1 (fun h => h); replace hOv := hOv.frm f1 (fun h => h); (try (replace hbox := hbox.frm f1 (fun h => h))); replace hL1 := hL1.off f1 Off.none; replace hF := hF.trans f1 (fun _ _ h => h); clear f1))
          all_goals
            go_wp2
            go_roundw
            case rel => exact ⟨k + 1, n, G, H, _, by omega, by go_num, hn1, by omega, hL1.shut bg, hR1.shut bh, hF⟩
            case measure => simp [intOf]; omega
      by_cases k3 : kind = 3
      · subst k3
        by_cases ha : 1 ≤ da ∧ da ≤ 4096
        · obtain ⟨q, rfl⟩ : ∃ q : Nat, da = (q : Int) := ⟨da.toNat, by omega⟩
          have hq1 : 1 ≤ q := by omega
          have hq2 : q ≤ 4096 := by omega
          have HLn : Hid ((prm s c0 q).1.length = q) := prm_len s c0 q hq2
          go_wp2
          try rw [hix]
          go_region_held3 (fun w' => w'.cell? ⟨gv, i, none⟩ = some (.pointer (some ⟨G i, 0, none⟩)) ∧ w'.cell? ⟨gu, i, none⟩ = some (.pointer (some ⟨H i, 0, none⟩)) ∧ w'.cell? ⟨wr.heap.size, 2, none⟩ = some (.int .i64 (q : Int)) ∧ w'.cell? ⟨wr.heap.size, 3, none⟩ = some (.int .i64 db)) (exact ⟨hOv.cellIs hci, hOu.cellIs hcj, hbox.cellIs (i := 2) rfl, hbox.cellIs (i := 3) rfl⟩) (first
                      | (go_at_call 18; (with_reducible refine (perm_yes (G i) q s _ _ hq1 hq2 bg).mono ?_); rintro e y ⟨p1, rfl, _, hP1, b2, f1⟩; (try (replace hP2 := hP2.frm f1 (Blk.ne hP2 bg (by decide)))); replace hR1 := hR1.off f1 (Off.of bg (by decide) (by decide)); replace bh := bh.frm f1 (Blk.ne bh bg (by decide)); replace hOu := hOu.frm f1 (Blk.ne hOu bg (by decide)); replace hOv := hOv.frm f1 (Blk.ne hOv bg (by decide)); (try (replace hbox := hbox.frm f1 (Blk.ne hbox bg (by decide)))); replace hL1 := hL1.own (by decide) hin bg f1; replace hF := hF.trans f1 (fun j hj e => absurd hj (by have := hL1.low i hin; omega)); replace bg := b2; clear f1)
                      | (go_at_call 24; (with_reducible refine (rperm_yes (H i) q s _ _ hq1 hq2 bh).mono ?_); rintro e y ⟨p2, rfl, _, hP2, b2, f1⟩; (try (replace hP1 := hP1.frm f1 (Blk.ne hP1 bh (by decide)))); replace hL1 := hL1.off f1 (Off.of bh (by decide) (by decide)); replace bg := bg.frm f1 (Blk.ne bg bh (by decide)); replace hOu := hOu.frm f1 (Blk.ne hOu bh (by decide)); replace hOv := hOv.frm f1 (Blk.ne hOv bh (by decide)); (try (replace hbox := hbox.frm f1 (Blk.ne hbox bh (by decide)))); replace hR1 := hR1.own (by decide) hin bh f1; replace hF := hF.trans f1 (fun j hj e => absurd hj (by have := hR1.low i hin; omega)); replace bh := b2; clear f1)
                      | (go_at_call 19; (with_reducible refine (eql_same _ _ q q q (p1 + 1) (p2 + 1) _ _ _ (by omega) HLn HLn (RdI.of_blk hP1) (RdI.of_blk hP2) (Nat.succ_le_of_lt hP1.lt) (Nat.succ_le_of_lt hP2.lt)).mono ?_); rintro e y ⟨rfl, f1⟩; replace hR1 := hR1.off f1 Off.none; replace bh := bh.frm f1 (fun h => h); replace bg := bg.frm f1 (fun h => h); replace hOu := hOu.frm f1 (fun h => h); replace hOv := hOv.frm f1 (fun h => h); (try (replace hbox := hbox.frm f1 (fun h => h))); replace hL1 := hL1.off f1 Off.none; replace hF := hF.trans f1 (fun _ _ h => h); clear f1))
          all_goals
            go_wp2
            go_roundw
            case rel => exact ⟨k + 1, n, G, H, _, by omega, by go_num, hn1, by omega, hL1.shut bg, hR1.shut bh, hF⟩
            case measure => simp [intOf]; omega
        · have ha2 : da < 1 ∨ 4096 < da := by omega
          go_wp2
          try rw [hix]
          go_region_held3 (fun w' => w'.cell? ⟨gv, i, none⟩ = some (.pointer (some ⟨G i, 0, none⟩)) ∧ w'.cell? ⟨gu, i, none⟩ = some (.pointer (some ⟨H i, 0, none⟩)) ∧ w'.cell? ⟨wr.heap.size, 2, none⟩ = some (.int .i64 da) ∧ w'.cell? ⟨wr.heap.size, 3, none⟩ = some (.int .i64 db)) (exact ⟨hOv.cellIs hci, hOu.cellIs hcj, hbox.cellIs (i := 2) rfl, hbox.cellIs (i := 3) rfl⟩) (first
                      | (go_at_call 18; (with_reducible refine (perm_no _ _ _ (.inr ha2)).mono ?_); rintro e y ⟨rfl, rfl⟩)
                      | (go_at_call 24; (with_reducible refine (rperm_no _ _ _ ha2).mono ?_); rintro e y ⟨rfl, rfl⟩)
                      | (go_at_call 19; (with_reducible refine (eql_none _).mono ?_); rintro e y ⟨rfl, f1⟩; replace hR1 := hR1.off f1 Off.none; replace bh := bh.frm f1 (fun h => h); replace bg := bg.frm f1 (fun h => h); replace hOu := hOu.frm f1 (fun h => h); replace hOv := hOv.frm f1 (fun h => h); (try (replace hbox := hbox.frm f1 (fun h => h))); replace hL1 := hL1.off f1 Off.none; replace hF := hF.trans f1 (fun _ _ h => h); clear f1))
          all_goals
            go_wp2
            go_roundw
            case rel => exact ⟨k + 1, n, G, H, _, by omega, by go_num, hn1, by omega, hL1.shut bg, hR1.shut bh, hF⟩
            case measure => simp [intOf]; omega
      by_cases k4 : kind = 4
      · subst k4
        have ein : ¬ i = n := by omega
        go_wp2
        try rw [hix]
        refine wp_region_held_drew (S := (fun w' => w'.cell? ⟨gv, i, none⟩ = some (.pointer (some ⟨G i, 0, none⟩)) ∧ w'.cell? ⟨gu, i, none⟩ = some (.pointer (some ⟨H i, 0, none⟩)) ∧ w'.cell? ⟨wr.heap.size, 2, none⟩ = some (.int .i64 da) ∧ w'.cell? ⟨wr.heap.size, 3, none⟩ = some (.int .i64 db))) (by kernel_rfl) (by exact ⟨hOv.cellIs hci, hOu.cellIs hcj, hbox.cellIs (i := 2) rfl, hbox.cellIs (i := 3) rfl⟩) (fun hHeld => ?_)
        (refine takeH 0 113 ?_ (by kernel_rfl) (by kernel_rfl) (by kernel_rfl) (by kernel_rfl) (by kernel_rfl) (fun _ _ _ h => h) ?_ (by assumption) ?_; rotate_left; (intro oi ho w hSw; simp only [List.getElem?_toArray, List.getElem?_cons_succ, List.getElem?_cons_zero, Option.some.injEq] at ho; subst ho; (try dsimp only at hSw); go_simp; try (with_reducible rfl)); (try simp only [List.set_cons_zero, List.set_cons_succ]))
        (refine takeH 1 114 ?_ (by kernel_rfl) (by kernel_rfl) (by kernel_rfl) (by kernel_rfl) (by kernel_rfl) (fun _ _ _ h => h) ?_ (by assumption) ?_; rotate_left; (intro oi ho w hSw; simp only [List.getElem?_toArray, List.getElem?_cons_succ, List.getElem?_cons_zero, Option.some.injEq] at ho; subst ho; (try dsimp only at hSw); go_simp; try (with_reducible rfl)); (try simp only [List.set_cons_zero, List.set_cons_succ]))
        (refine takeH 2 115 ?_ (by kernel_rfl) (by kernel_rfl) (by kernel_rfl) (by kernel_rfl) (by kernel_rfl) (fun _ _ _ h => h) ?_ (by assumption) ?_; rotate_left; (intro oi ho w hSw; simp only [List.getElem?_toArray, List.getElem?_cons_succ, List.getElem?_cons_zero, Option.some.injEq] at ho; subst ho; (try dsimp only at hSw); go_simp; try (with_reducible rfl)); (try simp only [List.set_cons_zero, List.set_cons_succ]))
        (refine takeH 3 116 ?_ (by kernel_rfl) (by kernel_rfl) (by kernel_rfl) (by kernel_rfl) (by kernel_rfl) (fun _ _ _ h => h) ?_ (by assumption) ?_; rotate_left; (intro oi ho w hSw; simp only [List.getElem?_toArray, List.getElem?_cons_succ, List.getElem?_cons_zero, Option.some.injEq] at ho; subst ho; (try dsimp only at hSw); go_simp; try (with_reducible rfl)); (try simp only [List.set_cons_zero, List.set_cons_succ]))
        (refine takeH 4 117 ?_ (by kernel_rfl) (by kernel_rfl) (by kernel_rfl) (by kernel_rfl) (by kernel_rfl) (fun _ _ _ h => h) ?_ (by assumption) ?_; rotate_left; (intro oi ho w hSw; simp only [List.getElem?_toArray, List.getElem?_cons_succ, List.getElem?_cons_zero, Option.some.injEq] at ho; subst ho; (try dsimp only at hSw); go_simp; try (with_reducible rfl)); (try simp only [List.set_cons_zero, List.set_cons_succ]))
        (refine takeH 8 121 ?_ (by kernel_rfl) (by kernel_rfl) (by kernel_rfl) (by kernel_rfl) (by kernel_rfl) (fun _ _ _ h => h) ?_ (by assumption) ?_; rotate_left; (intro oi ho w hSw; simp only [List.getElem?_toArray, List.getElem?_cons_succ, List.getElem?_cons_zero, Option.some.injEq] at ho; subst ho; (try dsimp only at hSw); go_simp; try (with_reducible rfl)); (try simp only [List.set_cons_zero, List.set_cons_succ]))
        (refine takeH 9 122 ?_ (by kernel_rfl) (by kernel_rfl) (by kernel_rfl) (by kernel_rfl) (by kernel_rfl) (fun _ _ _ h => h) ?_ (by assumption) ?_; rotate_left; (intro oi ho w hSw; simp only [List.getElem?_toArray, List.getElem?_cons_succ, List.getElem?_cons_zero, Option.some.injEq] at ho; subst ho; (try dsimp only at hSw); go_simp; try (with_reducible rfl)); (try simp only [List.set_cons_zero, List.set_cons_succ]))
        (refine takeH 10 123 ?_ (by kernel_rfl) (by kernel_rfl) (by kernel_rfl) (by kernel_rfl) (by kernel_rfl) (fun _ _ _ h => h) ?_ (by assumption) ?_; rotate_left; (intro oi ho w hSw; simp only [List.getElem?_toArray, List.getElem?_cons_succ, List.getElem?_cons_zero, Option.some.injEq] at ho; subst ho; (try dsimp only at hSw); go_simp; try (with_reducible rfl)); (try simp only [List.set_cons_zero, List.set_cons_succ]))
        (refine takeH 11 124 ?_ (by kernel_rfl) (by kernel_rfl) (by kernel_rfl) (by kernel_rfl) (by kernel_rfl) (fun _ _ _ h => h) ?_ (by assumption) ?_; rotate_left; (intro oi ho w hSw; simp only [List.getElem?_toArray, List.getElem?_cons_succ, List.getElem?_cons_zero, Option.some.injEq] at ho; subst ho; (try dsimp only at hSw); go_simp; try (with_reducible rfl)); (try simp only [List.set_cons_zero, List.set_cons_succ]))
        (refine takeH 12 125 ?_ (by kernel_rfl) (by kernel_rfl) (by kernel_rfl) (by kernel_rfl) (by kernel_rfl) (fun _ _ _ h => h) ?_ (by assumption) ?_; rotate_left; (intro oi ho w hSw; simp only [List.getElem?_toArray, List.getElem?_cons_succ, List.getElem?_cons_zero, Option.some.injEq] at ho; subst ho; (try dsimp only at hSw); go_simp; try (with_reducible rfl)); (try simp only [List.set_cons_zero, List.set_cons_succ]))
        refine wpAnyH_ready (rs := [5]) (by kernel_rfl) (by simp) ?_
        refine AllReadyH.cons rfl (fun K2 hK => ?_) ?_
        · skip
          go_simp
          go_at_call 25
          (with_reducible refine (fork_t (G i) s _ _ bg).mono ?_)
          rintro e y1 ⟨fg, rfl, hfg, bfg, b2, f1⟩
          have hfgn := hL1.fresh bg hfg
          have hfgl : w.heap.size ≤ fg := Nat.le_trans hF.size hfg
          (try (replace hP2 := hP2.frm f1 (Blk.ne hP2 bg (by decide)))); replace hR1 := hR1.off f1 (Off.of bg (by decide) (by decide)); replace bh := bh.frm f1 (Blk.ne bh bg (by decide)); replace hOu := hOu.frm f1 (Blk.ne hOu bg (by decide)); replace hOv := hOv.frm f1 (Blk.ne hOv bg (by decide)); (try (replace hbox := hbox.frm f1 (Blk.ne hbox bg (by decide)))); replace hL1 := hL1.own (by decide) hin bg f1; replace hF := hF.trans f1 (fun j hj e => absurd hj (by have := hL1.low i hin; omega)); replace bg := b2; clear f1
          go_wp2_with fail
          refine hK.out _ _ (by exact ⟨hOv.cellIs hci, hOu.cellIs hcj, hbox.cellIs (i := 2) rfl, hbox.cellIs (i := 3) rfl⟩) (fun hHeld => ?_)
          clear hK K2
          (try simp only [Act.put, List.setIfInBounds_toArray, List.set_cons_zero, List.set_cons_succ])
          refine wpAnyH_ready (rs := [6]) (by kernel_rfl) (by simp) ?_
          refine AllReadyH.cons rfl (fun K2 hK => ?_) ?_
          · skip
            go_simp
            have nbg := bg.also 27 #[.pointer (some ⟨fg, 0, none⟩)]
            have hYs : w.heap.size ≤ y1.heap.size := hF.size
            replace bfg := bfg.alloc (.cells #[.pointer (some ⟨fg, 0, none⟩)] 27)
            replace hR1 := hR1.off ((Frm.refl _ NoB).alloc (.cells #[.pointer (some ⟨fg, 0, none⟩)] 27)) Off.none; replace bh := bh.alloc (.cells #[.pointer (some ⟨fg, 0, none⟩)] 27); replace bg := bg.alloc (.cells #[.pointer (some ⟨fg, 0, none⟩)] 27); replace hOu := hOu.alloc (.cells #[.pointer (some ⟨fg, 0, none⟩)] 27); replace hOv := hOv.alloc (.cells #[.pointer (some ⟨fg, 0, none⟩)] 27); replace hbox := hbox.alloc (.cells #[.pointer (some ⟨fg, 0, none⟩)] 27); replace hL1 := hL1.off ((Frm.refl _ NoB).alloc (.cells #[.pointer (some ⟨fg, 0, none⟩)] 27)) Off.none; replace hF := hF.alloc (.cells #[.pointer (some ⟨fg, 0, none⟩)] 27)
            generalize hY1 : World.alloc y1 (Obj.cells #[Value.pointer (some ⟨fg, 0, none⟩)] 27) = y2 at *
            clear hY1
            generalize hY2 : y1.heap.size = Lg at *
            clear hY2
            refine hK.out _ _ (by exact ⟨hOv.cellIs hci, hOu.cellIs hcj, hbox.cellIs (i := 2) rfl, hbox.cellIs (i := 3) rfl⟩) (fun hHeld => ?_)
            clear hK K2
            (try simp only [Act.put, List.setIfInBounds_toArray, List.set_cons_zero, List.set_cons_succ])
            refine wpAnyH_ready (rs := [7]) (by kernel_rfl) (by simp) ?_
            refine AllReadyH.cons rfl (fun K2 hK => ?_) ?_
            · skip
              rw [if_pos (by kernel_rfl)]
              refine oper_append1 _ _ 41 27 rfl Try.underlying41 ptr_info27 hL1.row rfl rfl nbg rfl (by omega) hF.size (fun v1 y3 hr1 f1 ho1 => ?_)
              obtain ⟨cv2, hOv2, hcv2⟩ := ho1
              replace bfg := bfg.frm f1 (Blk.ne bfg hOv (by decide))
              replace bg := bg.frm f1 (Blk.ne bg hOv (by decide))
              replace hL1 := hL1.push (by decide) hOv f1 hr1 hin bfg hfgl hfgn
              replace hR1 := hR1.off f1 (Off.of hOv (by decide) (by decide))
              replace bh := bh.frm f1 (Blk.ne bh hOv (by decide))
              replace hOu := hOu.frm f1 (Blk.ne hOu hOv (by decide))
              replace hbox := hbox.frm f1 (Blk.ne hbox hOv (by decide))
              replace hF := hF.trans f1 (fun j hj e => absurd hj (by omega))
              replace hOv := hOv2
              replace hci := hcv2 i _ (ptrs_get n G i hin)
              clear f1 hr1 hcv2 nbg bfg
              refine hK.out _ _ (by exact ⟨hOv.cellIs hci, hOu.cellIs hcj, hbox.cellIs (i := 2) rfl, hbox.cellIs (i := 3) rfl⟩) (fun hHeld => ?_)
              clear hK K2
              (try simp only [Act.put, List.setIfInBounds_toArray, List.set_cons_zero, List.set_cons_succ])
              refine wpAnyH_ready (rs := [13]) (by kernel_rfl) (by simp) ?_
              refine AllReadyH.cons rfl (fun K2 hK => ?_) ?_
              · skip
                go_simp
                go_at_call 26
                (with_reducible refine (rfork_t (H i) s _ _ bh).mono ?_)
                rintro e y4 ⟨fh, rfl, hfh, bfh, b2, f1⟩
                have hfhn := hR1.fresh bh hfh
                have hfhl : w.heap.size ≤ fh := Nat.le_trans hF.size hfh
                (try (replace hP1 := hP1.frm f1 (Blk.ne hP1 bh (by decide)))); replace hL1 := hL1.off f1 (Off.of bh (by decide) (by decide)); replace bg := bg.frm f1 (Blk.ne bg bh (by decide)); replace hOu := hOu.frm f1 (Blk.ne hOu bh (by decide)); replace hOv := hOv.frm f1 (Blk.ne hOv bh (by decide)); (try (replace hbox := hbox.frm f1 (Blk.ne hbox bh (by decide)))); replace hR1 := hR1.own (by decide) hin bh f1; replace hF := hF.trans f1 (fun j hj e => absurd hj (by have := hR1.low i hin; omega)); replace bh := b2; clear f1
                go_wp2_with fail
                refine hK.out _ _ (by exact ⟨hOv.cellIs hci, hOu.cellIs hcj, hbox.cellIs (i := 2) rfl, hbox.cellIs (i := 3) rfl⟩) (fun hHeld => ?_)
                clear hK K2
                (try simp only [Act.put, List.setIfInBounds_toArray, List.set_cons_zero, List.set_cons_succ])
                refine wpAnyH_ready (rs := [14]) (by kernel_rfl) (by simp) ?_
                refine AllReadyH.cons rfl (fun K2 hK => ?_) ?_
                · skip
                  go_simp
                  have nbh := bh.also 42 #[.pointer (some ⟨fh, 0, none⟩)]
                  have hYs2 : w.heap.size ≤ y4.heap.size := hF.size
                  replace bfh := bfh.alloc (.cells #[.pointer (some ⟨fh, 0, none⟩)] 42)
                  replace hR1 := hR1.off ((Frm.refl _ NoB).alloc (.cells #[.pointer (some ⟨fh, 0, none⟩)] 42)) Off.none; replace bh := bh.alloc (.cells #[.pointer (some ⟨fh, 0, none⟩)] 42); replace bg := bg.alloc (.cells #[.pointer (some ⟨fh, 0, none⟩)] 42); replace hOu := hOu.alloc (.cells #[.pointer (some ⟨fh, 0, none⟩)] 42); replace hOv := hOv.alloc (.cells #[.pointer (some ⟨fh, 0, none⟩)] 42); replace hbox := hbox.alloc (.cells #[.pointer (some ⟨fh, 0, none⟩)] 42); replace hL1 := hL1.off ((Frm.refl _ NoB).alloc (.cells #[.pointer (some ⟨fh, 0, none⟩)] 42)) Off.none; replace hF := hF.alloc (.cells #[.pointer (some ⟨fh, 0, none⟩)] 42)
                  generalize hY1 : World.alloc y4 (Obj.cells #[Value.pointer (some ⟨fh, 0, none⟩)] 42) = y5 at *
                  clear hY1
                  generalize hY2 : y4.heap.size = Lh at *
                  clear hY2
                  refine hK.out _ _ (by exact ⟨hOv.cellIs hci, hOu.cellIs hcj, hbox.cellIs (i := 2) rfl, hbox.cellIs (i := 3) rfl⟩) (fun hHeld => ?_)
                  clear hK K2
                  (try simp only [Act.put, List.setIfInBounds_toArray, List.set_cons_zero, List.set_cons_succ])
                  refine wpAnyH_ready (rs := [15]) (by kernel_rfl) (by simp) ?_
                  refine AllReadyH.cons rfl (fun K2 hK => ?_) ?_
                  · skip
                    rw [if_pos (by kernel_rfl)]
                    refine oper_append1 _ _ 44 42 rfl Try.underlying44 ptr_info42 hR1.row rfl rfl nbh rfl (by omega) hF.size (fun u1 y6 hr1 f1 ho1 => ?_)
                    obtain ⟨cu2, hOu2, hcu2⟩ := ho1
                    replace bfh := bfh.frm f1 (Blk.ne bfh hOu (by decide))
                    replace bh := bh.frm f1 (Blk.ne bh hOu (by decide))
                    replace hR1 := hR1.push (by decide) hOu f1 hr1 hin bfh hfhl hfhn
                    replace hL1 := hL1.off f1 (Off.of hOu (by decide) (by decide))
                    replace bg := bg.frm f1 (Blk.ne bg hOu (by decide))
                    replace hOv := hOv.frm f1 (Blk.ne hOv hOu (by decide))
                    replace hbox := hbox.frm f1 (Blk.ne hbox hOu (by decide))
                    replace hF := hF.trans f1 (fun j hj e => absurd hj (by omega))
                    replace hOu := hOu2
                    replace hcj := hcu2 i _ (ptrs_get n H i hin)
                    clear f1 hr1 hcu2 nbh bfh
                    refine hK.out _ _ (by exact ⟨hOv.cellIs hci, hOu.cellIs hcj, hbox.cellIs (i := 2) rfl, hbox.cellIs (i := 3) rfl⟩) (fun hHeld => ?_)
                    clear hK K2
                    (try simp only [Act.put, List.setIfInBounds_toArray, List.set_cons_zero, List.set_cons_succ])
                    (refine takeH 16 5 ?_ (by kernel_rfl) (by kernel_rfl) (by kernel_rfl) (by kernel_rfl) (by kernel_rfl) (fun _ _ _ h => h) ?_ (by assumption) ?_; rotate_left; (intro oi ho w hSw; simp only [List.getElem?_toArray, List.getElem?_cons_succ, List.getElem?_cons_zero, Option.some.injEq] at ho; subst ho; (try dsimp only at hSw); go_simp; try (with_reducible rfl)); (try simp only [List.set_cons_zero, List.set_cons_succ]))
                    (refine takeH 17 6 ?_ (by kernel_rfl) (by kernel_rfl) (by kernel_rfl) (by kernel_rfl) (by kernel_rfl) (fun _ _ _ h => h) ?_ (by assumption) ?_; rotate_left; (intro oi ho w hSw; simp only [List.getElem?_toArray, List.getElem?_cons_succ, List.getElem?_cons_zero, Option.some.injEq] at ho; subst ho; (try dsimp only at hSw); go_simp; try (with_reducible rfl)); (try simp only [List.set_cons_zero, List.set_cons_succ]))
                    refine wpAnyH_done (by kernel_rfl) ?_ _
                    clear hHeld hOv hOu hbox hci hcj
                    go_wp2
                    go_roundw
                    case rel => exact ⟨k + 1, n + 1, _, _, _, by omega, by go_num, by omega, by omega, hL1.shut (show Blk _ (if i = n then fg else G i) 53 _ by rw [if_neg ein]; exact bg), hR1.shut (show Blk _ (if i = n then fh else H i) 62 _ by rw [if_neg ein]; exact bh), hF⟩
                    case measure => simp [intOf]; omega
                  exact AllReadyH.nil
                exact AllReadyH.nil
              exact AllReadyH.nil
            exact AllReadyH.nil
          exact AllReadyH.nil
        exact AllReadyH.nil
      · have e0 : (kind == 0) = false := beq_eq_false_iff_ne.2 k0
        have e1 : (kind == 1) = false := beq_eq_false_iff_ne.2 k1
        have e2 : (kind == 2) = false := beq_eq_false_iff_ne.2 k2
        have e3 : (kind == 3) = false := beq_eq_false_iff_ne.2 k3
        have e4 : (kind == 4) = false := beq_eq_false_iff_ne.2 k4
        have fB : Frm (wr.alloc (.cells #[.int .i64 on, .int .i64 kind, .int .i64 da, .int .i64 db] 46)).drew (wr.alloc (.cells #[.int .i64 on, .int .i64 kind, .int .i64 da, .int .i64 db] 46)) NoB := ⟨rfl, rfl, rfl, Nat.le_refl _, fun _ _ _ => rfl⟩
        replace hL1 := (hL1.shut bg).off fB Off.none
        replace hR1 := (hR1.shut bh).off fB Off.none
        replace hF := hF.trans fB (fun _ _ h => h)
        clear fB k0 k1 k2 k3 k4
        go_wp2
        go_roundw
        case rel => exact ⟨k + 1, n, G, H, _, by omega, by go_num, hn1, by omega, hL1, hR1, hF⟩
        case measure => simp [intOf]; omega
    · obtain ⟨gv, cpv, _, rfl, _, _, _⟩ := hL.form (by omega)
      obtain ⟨gu, cpu, _, rfl, _, _, _⟩ := hR.form (by omega)
      have hn2 : n ≤ 300 := by omega
      clear hD
      go_wp2
      go_loopw [11, 134] (fun _ i wr => ∃ (j : Nat) (K : Nat → Int × Int), j ≤ n ∧ i = .int .i64 j ∧ Side 53 27 w wr (.slice (some ⟨gv, 0, none⟩) n cpv) n n G K ∧ Side 62 42 w wr (.slice (some ⟨gu, 0, none⟩) n cpu) n n H K ∧ Frm w wr NoB) (fun _ i _ => n - (intOf i).toNat)
      case atStart => exact ⟨0, K, Nat.zero_le _, rfl, hL, hR, hF⟩
      case round =>
        clear hL hR hF
        obtain ⟨i, K, hi, rfl, hL, hR, hF⟩ := hrel
        by_cases hin : i < n
        · obtain ⟨g', cp', cv, ev, hOv, hcv, hgv⟩ := hL.form (by omega)
          simp only [Value.slice.injEq, Option.some.injEq, Addr.mk.injEq, and_true, true_and] at ev
          obtain ⟨rfl, rfl⟩ := ev
          obtain ⟨g', cp', cu, ev, hOu, hcu, hgu⟩ := hR.form (by omega)
          simp only [Value.slice.injEq, Option.some.injEq, Addr.mk.injEq, and_true, true_and] at ev
          obtain ⟨rfl, rfl⟩ := ev
          have hi0 : (0 : Int) ≤ (i : Int) := Int.natCast_nonneg _
          have hi1 : (i : Int) < (n : Int) := by omega
          obtain ⟨hL1, bg⟩ := hL.lay hin
          obtain ⟨hR1, bh⟩ := hR.lay hin
          obtain ⟨⟨s, c0⟩, hsc⟩ : ∃ p, p = K i := ⟨_, rfl⟩
          rw [← hsc] at bg bh
          simp only at bg bh
          have fA := (Frm.refl wr NoB).drew
          replace hL1 := hL1.off fA Off.none
          replace hR1 := hR1.off fA Off.none
          replace bg := bg.frm fA (fun h => h)
          replace bh := bh.frm fA (fun h => h)
          replace hOv := hOv.frm fA (fun h => h)
          replace hOu := hOu.frm fA (fun h => h)
          replace hF := hF.trans fA (fun _ _ h => h)
          have hci := hcv i hin
          have hcj := hcu i hin
          clear fA hL hR hsc hcv hcu
          go_wp2
          go_region_held3 (fun w' => w'.cell? ⟨gv, i, none⟩ = some (.pointer (some ⟨G i, 0, none⟩)) ∧ w'.cell? ⟨gu, i, none⟩ = some (.pointer (some ⟨H i, 0, none⟩))) (exact ⟨hOv.cellIs hci, hOu.cellIs hcj⟩) (first
            | (go_at_call 15; (with_reducible refine (next_t (G i) s _ _ bg).mono ?_); rintro e y ⟨rfl, b2, f1⟩; (try (replace hP2 := hP2.frm f1 (Blk.ne hP2 bg (by decide)))); replace hR1 := hR1.off f1 (Off.of bg (by decide) (by decide)); replace bh := bh.frm f1 (Blk.ne bh bg (by decide)); replace hOu := hOu.frm f1 (Blk.ne hOu bg (by decide)); replace hOv := hOv.frm f1 (Blk.ne hOv bg (by decide)); (try (replace hbox := hbox.frm f1 (Blk.ne hbox bg (by decide)))); replace hL1 := hL1.own (by decide) hin bg f1; replace hF := hF.trans f1 (fun j hj e => absurd hj (by have := hL1.low i hin; omega)); replace bg := b2; clear f1)
            | (go_at_call 21; (with_reducible refine (rnext_t (H i) s _ _ bh).mono ?_); rintro e y ⟨rfl, b2, f1⟩; (try (replace hP1 := hP1.frm f1 (Blk.ne hP1 bh (by decide)))); replace hL1 := hL1.off f1 (Off.of bh (by decide) (by decide)); replace bg := bg.frm f1 (Blk.ne bg bh (by decide)); replace hOu := hOu.frm f1 (Blk.ne hOu bh (by decide)); replace hOv := hOv.frm f1 (Blk.ne hOv bh (by decide)); (try (replace hbox := hbox.frm f1 (Blk.ne hbox bh (by decide)))); replace hR1 := hR1.own (by decide) hin bh f1; replace hF := hF.trans f1 (fun j hj e => absurd hj (by have := hR1.low i hin; omega)); replace bh := b2; clear f1))
          all_goals
            go_wp2
            go_roundw
            case rel => exact ⟨i + 1, _, by omega, by go_num, hL1.shut bg, hR1.shut bh, hF⟩
            case measure => simp [intOf]; omega
        · clear hL hR
          go_wp2_with (first
            | (go_at_call 13; (with_reducible refine (awake_t _).mono ?_); rintro e y ⟨rfl, f1⟩; replace hF := hF.trans f1 (fun _ _ h => h); clear f1))
          go_ret
          exact ⟨rfl, hF⟩
end Go.Proofs.Ytcdadpbnmilgiaa
