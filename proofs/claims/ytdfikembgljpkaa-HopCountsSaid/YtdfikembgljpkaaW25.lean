/- Busy of the reference. -/
import Derived.Test.YtdfikembgljpkaaW24
namespace Go.Proofs.Ytdfikembgljpkaa
open Go.RowKit

section
variable {P : Program} {md : Region.Mode} {ops : Array Oper} {Q : Exit → Act → World → Prop} {S : World → Prop} {fuel : Nat} {listed : Array Bool} {tm : List Value} {ds : List Deferred} {w : World}
/-- An operation that yields v in every world that meets S is taken first. -/
theorem takeH (i d : Nat) (v : Value) (hd : (ops[i]?).map (·.dst) = some (some d)) (hw : (ops[i]?).map (fun o => Region.wanted o (yielded ops tm.toArray)) = some true)
    (hs : Region.noSelect ops = true) (hf : Region.free md ops listed i = true) (hr : (Region.ready md ops listed).contains i = true)
    (hQ : ∀ c a w, Q (.panic c) { a with tmps := a.tmps.setIfInBounds d v } w → Q (.panic c) a w)
    (hy : ∀ oi, ops[i]? = some oi → ∀ w, S w → (execOp (Act.eval ⟨tm.toArray, ds⟩) oi).run P w = .ok (.value v) w) (hS : S w)
    (h : wpAnyH P md ops Q S fuel (listed.setIfInBounds i true) ⟨(tm.set d v).toArray, ds⟩ w) : wpAnyH P md ops Q S (fuel + 1) listed ⟨tm.toArray, ds⟩ w := by
  cases ho : ops[i]? with
  | none => rw [ho] at hd; cases hd
  | some oi =>
    rw [ho] at hd hw
    have hd' : oi.dst = some d := by simpa using hd
    have hw' : Region.wanted oi (yielded ops tm.toArray) = true := by simpa using hw
    have e : ∀ (a : Act) (v : Value), a.put oi.dst v = { a with tmps := a.tmps.setIfInBounds d v } := fun a v => by rw [hd']; rfl
    refine wpAnyH_take (v := v) ho hs hf hr (fun c a w hh => hQ c a w (by rw [← e]; exact hh)) (Or.inl ⟨hw', hy oi ho⟩) hS ?_
    rw [e]
    simpa using h
end

/-- An append to a slice that the call owns, as one operation of a region. -/
theorem oper_append_own {P : Program} {w : World} {o : Oper} {a : Act} {K : Act → World → Prop} {Q : Exit → Act → World → Prop} (s x : Operand) (t : TypeId)
    (ho : o.op = .call { callee := .builtin .append, args := #[s, x], argTypes := #[t, t] })
    (base : Nat) (e : TypeId) (i : TypeInfo) (z : Value) (size bytes : Nat) (ht : P.underlying t = some (.slice e)) (hi : P.info? e = some i) (hz : i.zero = some z)
    (hsize : i.size = size) (hby : i.bytes = bytes) (hzs : z.cells.size = size) (hsz : 0 < size)
    (v : Value) (n : Nat) (xs : List Value) (hs : a.eval s = v) (hown : w.ownsRow base e size v n xs)
    (ad : Addr) (m c : Nat) (news : List Value) (hx : a.eval x = .slice (some ad) m c) (hl : news.length = m * size) (hnews : ∀ j u, news[j]? = some u → w.cell? (ad.add j) = some u) (h1 : ∀ u ∈ news, u.oneCell' = true)
    (h63 : n + m ≤ maxLen) (hbytes : (n + m) * bytes ≤ 140737488355328) (hbase : base ≤ w.heap.size)
    (h : ∀ v' w', w'.ownsRow base e size v' (n + m) (xs ++ news) → w.grownBy w' v.ownBlock → K (a.put o.dst v') w') : Oper.wp P o a w K Q := by
  obtain ⟨v', w', hr, h2, h3, _⟩ := run_append_own (P := P) w base t o.type e i z size bytes ht hi hz hsize hby hzs hsz v n xs hown ad m c news hl hnews h1 h63 hbytes hbase
  unfold Oper.wp execOp
  simp only [ho, resolve, invoke, builtin, Sem.run_bind, Sem.run_pure, Result.andThen_ok, List.map_toArray, List.map_cons, List.map_nil, hs, hx, hr]
  exact h v' w' h2 h3

/-- Pass of the reference where the lists are good. -/
theorem rPass_ok {A A2 : Option Addr} {n c c2 B B2 : Nat} {xs ys : List Int} {w : World} (HE : Hid (chk xs ys 1125899906842624 = 0)) (hX : LI w A n B xs) (hY : LI w A2 n B2 ys) :
    Calls Try.prog 13 #[.slice A n c, .slice A2 n c2] w fun e w' => ∃ A' c', e = .returned (.tuple #[.slice A' n c', .int .i64 0]) ∧ LI w' A' n w'.heap.size (deps xs ys n) ∧ Frm w w' NoB := by
  have hp : pV xs ys = deps xs ys n := by unfold pV; rw [if_pos HE.out, hX.HN]
  refine (rPass_s (ps := deps xs ys n) HE hp hX hY).mono ?_
  rw [deps_len]
  exact fun e w' h => h

theorem OwnV.lower {w : World} {B B' : Nat} {v : Value} {l : List (Int × Int)} (h : OwnV w B v l) (hb : B' ≤ B) : OwnV w B' v l := by
  refine ⟨h.1, ?_⟩
  rcases h.2 with hn | ⟨g, cap, cur, e, hbg, rest⟩
  · exact .inl hn
  · exact .inr ⟨g, cap, cur, e, Nat.le_trans hb hbg, rest⟩

set_option linter.unusedSimpArgs false
section
variable (A A2 : Option Addr) (n n2 c c2 B : Nat) (xs ys : List Int) (w : World)
set_option maxHeartbeats 8000000 in
theorem rBusy_t (hX : LI w A n B xs) (hY : LI w A2 n2 B ys) :
    Calls Try.prog 18 #[.slice A n c, .slice A2 n2 c2] w fun e w' => ∃ v, e = .returned (.tuple #[v, .int .i64 (chk xs ys 1125899906842624)]) ∧ OwnV w' w.heap.size v (bV xs ys) ∧ Frm w w' NoB := by
  obtain ⟨e0, he⟩ : ∃ e, chk xs ys 1125899906842624 = e := ⟨_, rfl⟩
  by_cases h0 : e0 = 0
  · subst h0
    obtain ⟨h1, h2, h3, h4⟩ := chk_zero he
    have hp : bV xs ys = bsy xs ys n := by unfold bV; rw [if_pos he, hX.HN]
    have hnn : n = n2 := by rw [← hX.HN, ← hY.HN]; exact h1
    subst hnn
    have HN : Hid (n ≤ 512) := by rw [← hX.HN]; exact h2
    rw [he, hp]
    have HE := Lib.hid he
    obtain ⟨i0, hi, hz0, hz1, hz2⟩ := info_parts iv_info
    clear he hp h1 h2 h3 h4
    go_enter Try.func18, Try.ntmps18
    go_wp2_with (first
      | (go_at_call 13; (with_reducible refine (rPass_ok HE hX hY).mono ?_); rintro e x1 ⟨A6, c6, rfl, hD, f1⟩; replace hX := hX.frm f1; have hBx := hX.hB; clear hY))
    go_loopw [8, 9, 10] (fun v i _ wr => ∃ k : Nat, k ≤ n ∧ i = .int .i64 k ∧ OwnV wr x1.heap.size v (bsy xs ys k) ∧ Frm x1 wr NoB) (fun _ i _ _ => n - (intOf i).toNat)
    case atStart => exact ⟨0, Nat.zero_le _, rfl, World.ownsRow_nil _ _ _ _, Frm.refl _ _⟩
    case round =>
      obtain ⟨k, hk, rfl, hown, hF⟩ := hrel
      by_cases hlt : k < n
      · have hX' := hX.frm hF
        have hD' := hD.frm hF
        obtain ⟨b, o, rfl, hb1, hcell⟩ := hX'.hA.pos (by rw [hX'.HN]; omega)
        obtain ⟨b2, o2, rfl, hb2, hcell2⟩ := hD'.hA.pos (by rw [hD'.HN]; omega)
        have q1 := hcell k (by rw [hX'.HN]; omega)
        have q2 := hcell2 k (by rw [hD'.HN]; omega)
        rw [deps_get xs ys n k hlt] at q2
        have hs : bsy xs ys (k + 1) = stp (bsy xs ys k) (xs.getD k 0) (dl xs ys (k + 1)) := rfl
        have hbl := bsy_len xs ys k
        obtain ⟨a, ha⟩ : ∃ x, x = xs.getD k 0 := ⟨_, rfl⟩
        obtain ⟨D, hDD⟩ : ∃ D, D = dl xs ys (k + 1) := ⟨_, rfl⟩
        obtain ⟨L, hL⟩ : ∃ L, L = bsy xs ys k := ⟨_, rfl⟩
        rw [← ha] at q1 hs
        rw [← hDD] at q2 hs
        rw [← hL] at hs hown hbl
        have Hs := Lib.hid hs
        have hnb := HN.out
        clear hcell hcell2 hX' hD' ha hDD hL hs hX hD
        have hk0 : (0 : Int) ≤ (k : Int) := Int.natCast_nonneg _
        have hk1 : (k : Int) < (n : Int) := by omega
        have hsz := hF.size
        rcases List.eq_nil_or_concat L with rfl | ⟨m, p, rfl⟩
        · rw [stp_nil] at Hs
          obtain ⟨A', c', hv⟩ := OwnV.form hown
          replace hv : u8 = .slice A' 0 c' := hv
          subst hv
          have hown0 : wr.ownsRow x1.heap.size 33 2 (.slice A' 0 c') 0 [] := hown
          by_cases hDa : a < D
          · rw [if_pos hDa] at Hs
            go_wp2
            go_quiet (fail)
            go_wp2
            go_quiet (fail)
            go_wp2_with fail
            generalize hw3 : World.drewN (World.drewN wr _) _ = w3
            have hown1 : w3.ownsRow x1.heap.size 33 2 (.slice A' 0 c') 0 [] := by rw [← hw3]; exact hown0
            have hF1 : Frm x1 w3 NoB := by rw [← hw3]; exact (hF.drewN _).drewN _
            have p1 : w3.cell? ⟨b, o + k, none⟩ = some (.int .i64 a) := by rw [← hw3]; exact q1
            have p2 : w3.cell? ⟨b2, o2 + k, none⟩ = some (.int .i64 D) := by rw [← hw3]; exact q2
            (try clear hown)
            clear hw3 q1 q2 hown0 hF
            refine wp_region_held_drew (S := fun w' => w'.cell? ⟨b, o + k, none⟩ = some (.int .i64 a) ∧ w'.cell? ⟨b2, o2 + k, none⟩ = some (.int .i64 D)) (by kernel_rfl) ⟨p1, p2⟩ (fun hHeld => ?_)
            (refine takeH 0 61 ?_ (by kernel_rfl) (by kernel_rfl) (by kernel_rfl) (by kernel_rfl) (by kernel_rfl) (fun _ _ _ h => h) ?_ (by assumption) ?_; rotate_left; (intro oi ho w hSw; simp only [List.getElem?_toArray, List.getElem?_cons_succ, List.getElem?_cons_zero, Option.some.injEq] at ho; subst ho; (try dsimp only at hSw); go_simp; try (with_reducible rfl)); simp only [List.set_cons_zero, List.set_cons_succ])
            (refine takeH 1 62 ?_ (by kernel_rfl) (by kernel_rfl) (by kernel_rfl) (by kernel_rfl) (by kernel_rfl) (fun _ _ _ h => h) ?_ (by assumption) ?_; rotate_left; (intro oi ho w hSw; simp only [List.getElem?_toArray, List.getElem?_cons_succ, List.getElem?_cons_zero, Option.some.injEq] at ho; subst ho; (try dsimp only at hSw); go_simp; try (with_reducible rfl)); simp only [List.set_cons_zero, List.set_cons_succ])
            (refine takeH 2 63 ?_ (by kernel_rfl) (by kernel_rfl) (by kernel_rfl) (by kernel_rfl) (by kernel_rfl) (fun _ _ _ h => h) ?_ (by assumption) ?_; rotate_left; (intro oi ho w hSw; simp only [List.getElem?_toArray, List.getElem?_cons_succ, List.getElem?_cons_zero, Option.some.injEq] at ho; subst ho; (try dsimp only at hSw); go_simp; try (with_reducible rfl)); simp only [List.set_cons_zero, List.set_cons_succ])
            (refine takeH 3 64 ?_ (by kernel_rfl) (by kernel_rfl) (by kernel_rfl) (by kernel_rfl) (by kernel_rfl) (fun _ _ _ h => h) ?_ (by assumption) ?_; rotate_left; (intro oi ho w hSw; simp only [List.getElem?_toArray, List.getElem?_cons_succ, List.getElem?_cons_zero, Option.some.injEq] at ho; subst ho; (try dsimp only at hSw); go_simp; try (with_reducible rfl)); simp only [List.set_cons_zero, List.set_cons_succ])
            (refine takeH 4 65 ?_ (by kernel_rfl) (by kernel_rfl) (by kernel_rfl) (by kernel_rfl) (by kernel_rfl) (fun _ _ _ h => h) ?_ (by assumption) ?_; rotate_left; (intro oi ho w hSw; simp only [List.getElem?_toArray, List.getElem?_cons_succ, List.getElem?_cons_zero, Option.some.injEq] at ho; subst ho; (try dsimp only at hSw); go_simp; try (with_reducible rfl)); simp only [List.set_cons_zero, List.set_cons_succ])
            (refine takeH 5 66 ?_ (by kernel_rfl) (by kernel_rfl) (by kernel_rfl) (by kernel_rfl) (by kernel_rfl) (fun _ _ _ h => h) ?_ (by assumption) ?_; rotate_left; (intro oi ho w hSw; simp only [List.getElem?_toArray, List.getElem?_cons_succ, List.getElem?_cons_zero, Option.some.injEq] at ho; subst ho; (try dsimp only at hSw); go_simp; try (with_reducible rfl)); simp only [List.set_cons_zero, List.set_cons_succ])
            (refine takeH 6 67 ?_ (by kernel_rfl) (by kernel_rfl) (by kernel_rfl) (by kernel_rfl) (by kernel_rfl) (fun _ _ _ h => h) ?_ (by assumption) ?_; rotate_left; (intro oi ho w hSw; simp only [List.getElem?_toArray, List.getElem?_cons_succ, List.getElem?_cons_zero, Option.some.injEq] at ho; subst ho; (try dsimp only at hSw); go_simp; try (with_reducible rfl)); simp only [List.set_cons_zero, List.set_cons_succ])
            (refine takeH 7 68 ?_ (by kernel_rfl) (by kernel_rfl) (by kernel_rfl) (by kernel_rfl) (by kernel_rfl) (fun _ _ _ h => h) ?_ (by assumption) ?_; rotate_left; (intro oi ho w hSw; simp only [List.getElem?_toArray, List.getElem?_cons_succ, List.getElem?_cons_zero, Option.some.injEq] at ho; subst ho; (try dsimp only at hSw); go_simp; try (with_reducible rfl)); simp only [List.set_cons_zero, List.set_cons_succ])
            (refine takeH 8 69 ?_ (by kernel_rfl) (by kernel_rfl) (by kernel_rfl) (by kernel_rfl) (by kernel_rfl) (fun _ _ _ h => h) ?_ (by assumption) ?_; rotate_left; (intro oi ho w hSw; simp only [List.getElem?_toArray, List.getElem?_cons_succ, List.getElem?_cons_zero, Option.some.injEq] at ho; subst ho; (try dsimp only at hSw); go_simp; try (with_reducible rfl)); simp only [List.set_cons_zero, List.set_cons_succ])
            (refine takeH 9 70 ?_ (by kernel_rfl) (by kernel_rfl) (by kernel_rfl) (by kernel_rfl) (by kernel_rfl) (fun _ _ _ h => h) ?_ (by assumption) ?_; rotate_left; (intro oi ho w hSw; simp only [List.getElem?_toArray, List.getElem?_cons_succ, List.getElem?_cons_zero, Option.some.injEq] at ho; subst ho; (try dsimp only at hSw); go_simp; try (with_reducible rfl)); simp only [List.set_cons_zero, List.set_cons_succ])
            refine wpAnyH_ready (rs := [10]) (by kernel_rfl) (by simp) ?_
            refine AllReadyH.cons rfl (fun K hK => ?_) AllReadyH.nil
            go_simp
            have hbl1 : Blk (w3.alloc (.cells #[.int .i64 a, .int .i64 D] 33)).drew w3.heap.size 33 #[.int .i64 a, .int .i64 D] := Blk.new w3 33 _
            have hF2 : Frm x1 (w3.alloc (.cells #[.int .i64 a, .int .i64 D] 33)).drew NoB := (hF1.alloc _).drew
            have hF3 : Frm w3 (w3.alloc (.cells #[.int .i64 a, .int .i64 D] 33)).drew NoB := ((Frm.refl w3 NoB).alloc _).drew
            have hown2 : (w3.alloc (.cells #[.int .i64 a, .int .i64 D] 33)).drew.ownsRow x1.heap.size 33 2 (.slice A' 0 c') 0 [] := hown1.alloc _
            have hsz3 : x1.heap.size ≤ w3.heap.size := hF1.size
            have p3 := (hF3.cell (p := ⟨b, o + k, none⟩) (by show b < w3.heap.size; omega) (fun h => h)).trans p1
            have p4 := (hF3.cell (p := ⟨b2, o2 + k, none⟩) (by show b2 < w3.heap.size; omega) (fun h => h)).trans p2
            generalize hw4 : (w3.alloc (.cells #[.int .i64 a, .int .i64 D] 33)).drew = w4 at *
            refine hK.out _ _ ⟨p3, p4⟩ (fun hHeld2 => ?_)
            (try simp only [Act.put, List.setIfInBounds_toArray, List.set_cons_zero, List.set_cons_succ])
            refine wpAnyH_ready (rs := [11]) (by kernel_rfl) (by simp) ?_
            refine AllReadyH.cons rfl (fun K hK => ?_) AllReadyH.nil
            rw [if_pos (by kernel_rfl)]
            (refine oper_append_own _ _ 28 rfl x1.heap.size 33 i0 (.agg #[.int .i64 0, .int .i64 0]) 2 16 Try.underlying28 hi hz0 hz1 hz2 rfl (by decide) _ _ _ rfl hown2 ⟨w3.heap.size, 0, none⟩ 1 1 [.int .i64 a, .int .i64 D] rfl rfl ?c1 ?c2 ?c3 ?c4 ?c5 ?_)
            (case c1 => (intro j u hj; match j, hj with | 0, hj => (simp at hj; subst hj; exact hbl1.cellIs (i := 0) rfl) | 1, hj => (simp at hj; subst hj; exact hbl1.cellIs (i := 1) rfl))); (case c2 => first | (intro u hu; simp at hu; rcases hu with rfl | rfl <;> rfl) | exact ⟨rfl, rfl⟩); (case c3 => (unfold maxLen; omega)); (case c4 => omega); (case c5 => exact hF2.size)
            intro v' w1 hown' hgrow
            have hF4 : Frm w4 w1 (Up x1.heap.size) := (Frm.refl w4 _).grown hgrow (fun j hj _ => (hown2.lt j hj).1)
            have hF5 : Frm x1 w1 NoB := hF2.trans hF4 (fun i h1 h2 => absurd h1 (Nat.not_lt.2 h2))
            have hsz4 := hF2.size
            have p5 := (hF4.cell (p := ⟨b, o + k, none⟩) (by show b < w4.heap.size; omega) (fun h => by have : x1.heap.size ≤ b := h; omega)).trans p3
            have p6 := (hF4.cell (p := ⟨b2, o2 + k, none⟩) (by show b2 < w4.heap.size; omega) (fun h => by have : x1.heap.size ≤ b2 := h; omega)).trans p4
            refine hK.out _ _ ⟨p5, p6⟩ (fun hHeld3 => ?_)
            (try simp only [Act.put, List.setIfInBounds_toArray, List.set_cons_zero, List.set_cons_succ])
            (refine takeH 12 8 ?_ (by kernel_rfl) (by kernel_rfl) (by kernel_rfl) (by kernel_rfl) (by kernel_rfl) (fun _ _ _ h => h) ?_ (by assumption) ?_; rotate_left; (intro oi ho w hSw; simp only [List.getElem?_toArray, List.getElem?_cons_succ, List.getElem?_cons_zero, Option.some.injEq] at ho; subst ho; (try dsimp only at hSw); go_simp; try (with_reducible rfl)); simp only [List.set_cons_zero, List.set_cons_succ])
            refine wpAnyH_done (by kernel_rfl) ?_ _
            have hown3 : OwnV w1 x1.heap.size v' (bsy xs ys (k + 1)) := by rw [Hs.out]; exact hown'
            clear hown' hgrow hHeld3 hHeld2 hHeld
            go_wp2
            go_roundw
            case rel => exact ⟨k + 1, by omega, by go_num, hown3, hF5⟩
            case measure => simp [intOf]; omega
          · rw [if_neg hDa] at Hs
            go_wp2
            go_quiet (fail)
            go_wp2
            go_quiet (fail)
            go_wp2
            go_roundw
            case rel => exact ⟨k + 1, by omega, by go_num, by rw [Hs.out]; exact hown, hF.drewN _⟩
            case measure => simp [intOf]; omega
        · obtain ⟨x, y⟩ := p
          rw [List.concat_eq_append] at hown hbl Hs
          rw [stp_app] at Hs
          obtain ⟨K, hK⟩ : ∃ K, K = m.length := ⟨_, rfl⟩
          obtain ⟨N, hN⟩ : ∃ N, N = (m ++ [(x, y)]).length := ⟨_, rfl⟩
          have hNK : N = K + 1 := by rw [hN, hK]; simp
          have hown0 : wr.ownsRow x1.heap.size 33 2 u8 N (ivc (m ++ [(x, y)])) := by rw [hN]; exact hown
          obtain ⟨g', c', hv⟩ : ∃ g' c', u8 = .slice (some ⟨g', 0, none⟩) N c' := by
            rcases hown0.2 with ⟨_, h⟩ | ⟨g', cap, cur, e, _⟩
            · omega
            · exact ⟨g', cap, e⟩
          subst hv
          have q3 : wr.cell? ⟨g', K * 2 + 1, none⟩ = some (.int .i64 y) := by rw [hown0.cellAt (K * 2 + 1) (by omega), hK]; exact (ivc_last m (x, y)).2
          have t1 : IntKind.i64.wrap ((N : Int) - 1) = (K : Int) := by rw [IntWalk.i64_in _ (by omega)]; omega
          have hk2 : (0 : Int) ≤ (K : Int) := Int.natCast_nonneg _
          have hk3 : (K : Int) < (N : Int) := by omega
          have hk4 : (0 : Int) < (N : Int) := by omega
          have hk5 : 0 < N := by omega
          have zf := hown0.frozenAt (K * 2 + 1)
          have hBg' : x1.heap.size ≤ g' := (hown0.lt g' rfl).1
          have hNb : N ≤ 513 := by omega
          have HK := Lib.hid hK
          have HN2 := Lib.hid hN
          have HNK := Lib.hid hNK
          clear hK hN hNK hown
          by_cases h1 : a ≤ y
          · rw [if_pos h1] at Hs
            go_wp2
            go_quiet (fail)
            go_wp2_with fail
            generalize hw3 : World.drewN wr _ = w3
            have hown1 : w3.ownsRow x1.heap.size 33 2 (.slice (some ⟨g', 0, none⟩) N c') N (ivc (m ++ [(x, y)])) := by rw [← hw3]; exact hown0
            have hF1 : Frm x1 w3 NoB := by rw [← hw3]; exact hF.drewN _
            have p2 : w3.cell? ⟨b2, o2 + k, none⟩ = some (.int .i64 D) := by rw [← hw3]; exact q2
            have zf2 := hown1.frozenAt (K * 2 + 1)
            have p3 : w3.cell? ⟨g', K * 2 + 1, none⟩ = some (.int .i64 y) := by rw [← hw3]; exact q3
            clear hw3 q1 q2 q3 zf hown0 hF
            have ho2 := (hown1.stored (K * 2 + 1) (.int .i64 D)).1
            have ho3 : OwnV (w3.setCell ⟨g', K * 2 + 1, none⟩ (.int .i64 D)) x1.heap.size (.slice (some ⟨g', 0, none⟩) N c') (bsy xs ys (k + 1)) := by
              rw [Hs.out]
              have e := ivc_set m x y D
              rw [← HK.out] at e
              rw [e] at ho2
              have e2 : (m ++ [(x, D)]).length = N := by rw [HN2.out]; simp
              unfold OwnV
              rw [e2]
              exact ho2
            have hF2 := hF1.put (b := g') (fun h => absurd h (Nat.not_lt.2 hBg')) (K * 2 + 1) (.int .i64 D)
            clear ho2 hown1
            go_wp2
            go_roundw
            case rel => exact ⟨k + 1, by omega, by go_num, ho3, hF2⟩
            case measure => simp [intOf]; omega
          · rw [if_neg h1] at Hs
            by_cases hDa : a < D
            · rw [if_pos hDa] at Hs
              go_wp2
              go_quiet (fail)
              go_wp2
              go_quiet (fail)
              go_wp2_with fail
              clear q3 zf
              generalize hw3 : World.drewN (World.drewN wr _) _ = w3
              have hown1 : w3.ownsRow x1.heap.size 33 2 (.slice (some ⟨g', 0, none⟩) N c') N (ivc (m ++ [(x, y)])) := by rw [← hw3]; exact hown0
              have hF1 : Frm x1 w3 NoB := by rw [← hw3]; exact (hF.drewN _).drewN _
              have p1 : w3.cell? ⟨b, o + k, none⟩ = some (.int .i64 a) := by rw [← hw3]; exact q1
              have p2 : w3.cell? ⟨b2, o2 + k, none⟩ = some (.int .i64 D) := by rw [← hw3]; exact q2
              (try clear hown)
              clear hw3 q1 q2 hown0 hF
              refine wp_region_held_drew (S := fun w' => w'.cell? ⟨b, o + k, none⟩ = some (.int .i64 a) ∧ w'.cell? ⟨b2, o2 + k, none⟩ = some (.int .i64 D)) (by kernel_rfl) ⟨p1, p2⟩ (fun hHeld => ?_)
              (refine takeH 0 61 ?_ (by kernel_rfl) (by kernel_rfl) (by kernel_rfl) (by kernel_rfl) (by kernel_rfl) (fun _ _ _ h => h) ?_ (by assumption) ?_; rotate_left; (intro oi ho w hSw; simp only [List.getElem?_toArray, List.getElem?_cons_succ, List.getElem?_cons_zero, Option.some.injEq] at ho; subst ho; (try dsimp only at hSw); go_simp; try (with_reducible rfl)); simp only [List.set_cons_zero, List.set_cons_succ])
              (refine takeH 1 62 ?_ (by kernel_rfl) (by kernel_rfl) (by kernel_rfl) (by kernel_rfl) (by kernel_rfl) (fun _ _ _ h => h) ?_ (by assumption) ?_; rotate_left; (intro oi ho w hSw; simp only [List.getElem?_toArray, List.getElem?_cons_succ, List.getElem?_cons_zero, Option.some.injEq] at ho; subst ho; (try dsimp only at hSw); go_simp; try (with_reducible rfl)); simp only [List.set_cons_zero, List.set_cons_succ])
              (refine takeH 2 63 ?_ (by kernel_rfl) (by kernel_rfl) (by kernel_rfl) (by kernel_rfl) (by kernel_rfl) (fun _ _ _ h => h) ?_ (by assumption) ?_; rotate_left; (intro oi ho w hSw; simp only [List.getElem?_toArray, List.getElem?_cons_succ, List.getElem?_cons_zero, Option.some.injEq] at ho; subst ho; (try dsimp only at hSw); go_simp; try (with_reducible rfl)); simp only [List.set_cons_zero, List.set_cons_succ])
              (refine takeH 3 64 ?_ (by kernel_rfl) (by kernel_rfl) (by kernel_rfl) (by kernel_rfl) (by kernel_rfl) (fun _ _ _ h => h) ?_ (by assumption) ?_; rotate_left; (intro oi ho w hSw; simp only [List.getElem?_toArray, List.getElem?_cons_succ, List.getElem?_cons_zero, Option.some.injEq] at ho; subst ho; (try dsimp only at hSw); go_simp; try (with_reducible rfl)); simp only [List.set_cons_zero, List.set_cons_succ])
              (refine takeH 4 65 ?_ (by kernel_rfl) (by kernel_rfl) (by kernel_rfl) (by kernel_rfl) (by kernel_rfl) (fun _ _ _ h => h) ?_ (by assumption) ?_; rotate_left; (intro oi ho w hSw; simp only [List.getElem?_toArray, List.getElem?_cons_succ, List.getElem?_cons_zero, Option.some.injEq] at ho; subst ho; (try dsimp only at hSw); go_simp; try (with_reducible rfl)); simp only [List.set_cons_zero, List.set_cons_succ])
              (refine takeH 5 66 ?_ (by kernel_rfl) (by kernel_rfl) (by kernel_rfl) (by kernel_rfl) (by kernel_rfl) (fun _ _ _ h => h) ?_ (by assumption) ?_; rotate_left; (intro oi ho w hSw; simp only [List.getElem?_toArray, List.getElem?_cons_succ, List.getElem?_cons_zero, Option.some.injEq] at ho; subst ho; (try dsimp only at hSw); go_simp; try (with_reducible rfl)); simp only [List.set_cons_zero, List.set_cons_succ])
              (refine takeH 6 67 ?_ (by kernel_rfl) (by kernel_rfl) (by kernel_rfl) (by kernel_rfl) (by kernel_rfl) (fun _ _ _ h => h) ?_ (by assumption) ?_; rotate_left; (intro oi ho w hSw; simp only [List.getElem?_toArray, List.getElem?_cons_succ, List.getElem?_cons_zero, Option.some.injEq] at ho; subst ho; (try dsimp only at hSw); go_simp; try (with_reducible rfl)); simp only [List.set_cons_zero, List.set_cons_succ])
              (refine takeH 7 68 ?_ (by kernel_rfl) (by kernel_rfl) (by kernel_rfl) (by kernel_rfl) (by kernel_rfl) (fun _ _ _ h => h) ?_ (by assumption) ?_; rotate_left; (intro oi ho w hSw; simp only [List.getElem?_toArray, List.getElem?_cons_succ, List.getElem?_cons_zero, Option.some.injEq] at ho; subst ho; (try dsimp only at hSw); go_simp; try (with_reducible rfl)); simp only [List.set_cons_zero, List.set_cons_succ])
              (refine takeH 8 69 ?_ (by kernel_rfl) (by kernel_rfl) (by kernel_rfl) (by kernel_rfl) (by kernel_rfl) (fun _ _ _ h => h) ?_ (by assumption) ?_; rotate_left; (intro oi ho w hSw; simp only [List.getElem?_toArray, List.getElem?_cons_succ, List.getElem?_cons_zero, Option.some.injEq] at ho; subst ho; (try dsimp only at hSw); go_simp; try (with_reducible rfl)); simp only [List.set_cons_zero, List.set_cons_succ])
              (refine takeH 9 70 ?_ (by kernel_rfl) (by kernel_rfl) (by kernel_rfl) (by kernel_rfl) (by kernel_rfl) (fun _ _ _ h => h) ?_ (by assumption) ?_; rotate_left; (intro oi ho w hSw; simp only [List.getElem?_toArray, List.getElem?_cons_succ, List.getElem?_cons_zero, Option.some.injEq] at ho; subst ho; (try dsimp only at hSw); go_simp; try (with_reducible rfl)); simp only [List.set_cons_zero, List.set_cons_succ])
              refine wpAnyH_ready (rs := [10]) (by kernel_rfl) (by simp) ?_
              refine AllReadyH.cons rfl (fun K hK => ?_) AllReadyH.nil
              go_simp
              have hbl1 : Blk (w3.alloc (.cells #[.int .i64 a, .int .i64 D] 33)).drew w3.heap.size 33 #[.int .i64 a, .int .i64 D] := Blk.new w3 33 _
              have hF2 : Frm x1 (w3.alloc (.cells #[.int .i64 a, .int .i64 D] 33)).drew NoB := (hF1.alloc _).drew
              have hF3 : Frm w3 (w3.alloc (.cells #[.int .i64 a, .int .i64 D] 33)).drew NoB := ((Frm.refl w3 NoB).alloc _).drew
              have hown2 : (w3.alloc (.cells #[.int .i64 a, .int .i64 D] 33)).drew.ownsRow x1.heap.size 33 2 (.slice (some ⟨g', 0, none⟩) N c') N (ivc (m ++ [(x, y)])) := hown1.alloc _
              have hsz3 : x1.heap.size ≤ w3.heap.size := hF1.size
              have p3 := (hF3.cell (p := ⟨b, o + k, none⟩) (by show b < w3.heap.size; omega) (fun h => h)).trans p1
              have p4 := (hF3.cell (p := ⟨b2, o2 + k, none⟩) (by show b2 < w3.heap.size; omega) (fun h => h)).trans p2
              generalize hw4 : (w3.alloc (.cells #[.int .i64 a, .int .i64 D] 33)).drew = w4 at *
              refine hK.out _ _ ⟨p3, p4⟩ (fun hHeld2 => ?_)
              (try simp only [Act.put, List.setIfInBounds_toArray, List.set_cons_zero, List.set_cons_succ])
              refine wpAnyH_ready (rs := [11]) (by kernel_rfl) (by simp) ?_
              refine AllReadyH.cons rfl (fun K hK => ?_) AllReadyH.nil
              rw [if_pos (by kernel_rfl)]
              (refine oper_append_own _ _ 28 rfl x1.heap.size 33 i0 (.agg #[.int .i64 0, .int .i64 0]) 2 16 Try.underlying28 hi hz0 hz1 hz2 rfl (by decide) _ _ _ rfl hown2 ⟨w3.heap.size, 0, none⟩ 1 1 [.int .i64 a, .int .i64 D] rfl rfl ?c1 ?c2 ?c3 ?c4 ?c5 ?_)
              (case c1 => (intro j u hj; match j, hj with | 0, hj => (simp at hj; subst hj; exact hbl1.cellIs (i := 0) rfl) | 1, hj => (simp at hj; subst hj; exact hbl1.cellIs (i := 1) rfl))); (case c2 => first | (intro u hu; simp at hu; rcases hu with rfl | rfl <;> rfl) | exact ⟨rfl, rfl⟩); (case c3 => (unfold maxLen; omega)); (case c4 => omega); (case c5 => exact hF2.size)
              intro v' w1 hown' hgrow
              have hF4 : Frm w4 w1 (Up x1.heap.size) := (Frm.refl w4 _).grown hgrow (fun j hj _ => (hown2.lt j hj).1)
              have hF5 : Frm x1 w1 NoB := hF2.trans hF4 (fun i h1 h2 => absurd h1 (Nat.not_lt.2 h2))
              have hsz4 := hF2.size
              have p5 := (hF4.cell (p := ⟨b, o + k, none⟩) (by show b < w4.heap.size; omega) (fun h => by have : x1.heap.size ≤ b := h; omega)).trans p3
              have p6 := (hF4.cell (p := ⟨b2, o2 + k, none⟩) (by show b2 < w4.heap.size; omega) (fun h => by have : x1.heap.size ≤ b2 := h; omega)).trans p4
              refine hK.out _ _ ⟨p5, p6⟩ (fun hHeld3 => ?_)
              (try simp only [Act.put, List.setIfInBounds_toArray, List.set_cons_zero, List.set_cons_succ])
              (refine takeH 12 8 ?_ (by kernel_rfl) (by kernel_rfl) (by kernel_rfl) (by kernel_rfl) (by kernel_rfl) (fun _ _ _ h => h) ?_ (by assumption) ?_; rotate_left; (intro oi ho w hSw; simp only [List.getElem?_toArray, List.getElem?_cons_succ, List.getElem?_cons_zero, Option.some.injEq] at ho; subst ho; (try dsimp only at hSw); go_simp; try (with_reducible rfl)); simp only [List.set_cons_zero, List.set_cons_succ])
              refine wpAnyH_done (by kernel_rfl) ?_ _
              have hown3 : OwnV w1 x1.heap.size v' (bsy xs ys (k + 1)) := by rw [Hs.out]; have e2 : (m ++ [(x, y)] ++ [(a, D)]).length = N + 1 := (by rw [HN2.out]; simp); unfold OwnV; rw [e2, ivc_app]; exact hown'
              clear hown' hgrow hHeld3 hHeld2 hHeld
              go_wp2
              go_roundw
              case rel => exact ⟨k + 1, by omega, by go_num, hown3, hF5⟩
              case measure => simp [intOf]; omega
            · rw [if_neg hDa] at Hs
              go_wp2
              go_quiet (fail)
              go_wp2
              go_quiet (fail)
              go_wp2
              go_roundw
              case rel => exact ⟨k + 1, by omega, by go_num, by rw [Hs.out]; unfold OwnV; rw [← HN2.out]; exact hown0, hF.drewN _⟩
              case measure => simp [intOf]; omega
      · have hkn : k = n := by omega
        have HKN := Lib.hid hkn
        have hown2 : OwnV wr w.heap.size u8 (bsy xs ys n) := by
          have h := OwnV.lower hown f1.size
          rw [hkn] at h
          exact h
        clear hkn hX hD
        go_wp2
        go_ret2
        exact ⟨_, rfl, hown2, f1.trans hF (fun _ _ h => h)⟩
  · have hp : bV xs ys = [] := by unfold bV; rw [he, if_neg h0]
    have hp2 : pV xs ys = [] := by unfold pV; rw [he, if_neg h0]
    rw [he, hp]
    have HE := Lib.hid he
    have HP := Lib.hid hp2
    have hb : (e0 != 0) = true := by rw [bne_iff_ne]; exact h0
    clear he hp hp2 h0
    go_enter Try.func18, Try.ntmps18
    go_wp2_with (first | (go_at_call 13; (with_reducible refine (rPass_s HE HP hX hY).mono ?_); rintro e x1 ⟨A6, c6, rfl, hD, f1⟩))
    go_ret2
    exact ⟨_, rfl, World.ownsRow_nil _ _ _ _, f1⟩
end
end Go.Proofs.Ytdfikembgljpkaa
