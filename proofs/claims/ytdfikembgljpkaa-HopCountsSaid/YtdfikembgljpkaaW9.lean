/- Waits of the program. -/
import Derived.Test.YtdfikembgljpkaaW8
namespace Go.Proofs.Ytdfikembgljpkaa
open Go.RowKit

set_option maxHeartbeats 4000000 in
theorem tell29 (B g k : Nat) (v : Value) (ks : List Int) (a s D : Int) (w : World) (h1 : IntKind.i64.wrap (D - s) = D - s) (h2 : IntKind.i64.wrap (D - s - a) = D - s - a) (hk : k ≤ 600) (hB : B ≤ w.heap.size) (hBg : B ≤ g) (hg : Blk w g 22 #[v]) (hown : OwnI w B v k ks) :
    Calls Try.prog 29 #[.int .i64 a, .int .i64 s, .int .i64 D, .pointer (some ⟨g, 0, none⟩)] w fun e w' => e = .returned (.tuple #[]) ∧
      ∃ v', Blk w' g 22 #[v'] ∧ OwnI w' B v' (k + 1) (ks ++ [D - s - a]) ∧ Frm w w' (Up B) := by
  obtain ⟨i0, hi, hz0, hz1, hz2⟩ := info_parts int_info
  have c0 : w.cell? ⟨g, 0, none⟩ = some v := hg.cellIs rfl
  go_enter Try.func29, Try.ntmps29
  go_wp2_with (first
    | (at_builtin; refine wpList_append_own _ rfl _ _ 22 rfl B 3 i0 (.int .i64 0) 1 8 Try.underlying22 hi hz0 hz1 hz2 rfl (by decide) _ _ _ rfl (hown.alloc _) ⟨w.heap.size, 0, none⟩ 1 1 [.int .i64 (D - s - a)] rfl rfl ?c1 ?c2 ?c3 ?c4 ?c5 ?_)
    | go_in)
  (case c1 => (intro j u hj; match j, hj with | 0, hj => (simp at hj; subst hj; simp [Addr.add]))); (case c2 => (intro u hu; simp at hu; subst hu; rfl)); (case c3 => (unfold maxLen; omega)); (case c4 => omega); (case c5 => (simp; omega))
  intro v' w1 hown' hgrow _
  have hF : Frm w w1 (Up B) := ((Frm.refl w (Up B)).alloc (.cells #[.int .i64 (D - s - a)] 3)).grown hgrow (fun j hj hlt => (hown.lt j hj).1)
  have hg1 : Blk w1 g 22 #[v] := by
    have h := hg.alloc (.cells #[.int .i64 (D - s - a)] 3)
    unfold Blk at h ⊢
    rw [hgrow.block g (by have := hg.lt; simp; omega) (fun e => hown.nblk hg (by decide) g e.symm rfl)]
    exact h
  have hown3 : OwnI w1 B v' (k + 1) (ks ++ [D - s - a]) := by simpa [OwnI] using hown'
  obtain ⟨A', c', rfl, _⟩ := hown3.li (by omega)
  have zf := hg1.frozen 0
  have c1 : w1.cell? ⟨g, 0, none⟩ = some v := hg1.cellIs rfl
  have hg2 := hg1.put 0 (.slice A' (k + 1) c')
  have hown4 := hown3.put hg1 (by decide) 0 (.slice A' (k + 1) c')
  have hF2 := hF.put (b := g) (fun _ => hBg) 0 (.slice A' (k + 1) c')
  clear hown' hgrow
  go_wp2
  refine bodyPost_end (v := .tuple #[]) (by simp [results, Try.results29]) rfl ?_
  exact ⟨rfl, _, hg2, hown4, hF2⟩

/-- How long the first k messages wait. -/
def wts (xs ys : List Int) (k : Nat) : List Int := (List.range k).map (fun j => dl xs ys (j + 1) - ys.getD j 0 - xs.getD j 0)
theorem wts_len (xs ys : List Int) (k : Nat) : (wts xs ys k).length = k := by simp [wts]
theorem wts_succ (xs ys : List Int) (k : Nat) : wts xs ys (k + 1) = wts xs ys k ++ [dl xs ys (k + 1) - ys.getD k 0 - xs.getD k 0] := by simp [wts, List.range_succ]
/-- The list that Waits returns. -/
noncomputable def wV (xs ys : List Int) : List Int := if chk xs ys 1125899906842624 = 0 then wts xs ys xs.length else []

theorem wserve {A A2 : Option Addr} {n c c2 B g : Nat} {xs ys : List Int} {w : World} (hX : LI w A n B xs) (hY : LI w A2 n B ys) (hn : n ≤ 512) (HO : Hid (oks xs ys 1125899906842624 n)) (hBg : B ≤ g) (hG : Blk w g 22 #[.slice none 0 0]) :
    Calls Try.prog 28 #[.slice A n c, .slice A2 n c2, .func (.func 29) #[] #[.pointer (some ⟨g, 0, none⟩)]] w fun e w' => e = .returned (.tuple #[]) ∧ (∃ v, Blk w' g 22 #[v] ∧ OwnI w' B v n (wts xs ys n)) ∧ Frm w w' (Up B) := by
  refine serve29 (I := fun k wr => ∃ v, Blk wr g 22 #[v] ∧ OwnI wr B v k (wts xs ys k)) A A2 n c c2 B g xs ys w hX hY hn (fits_of HO.out (by decide) (by decide) hn) ⟨_, hG, World.ownsRow_nil _ _ _ _⟩ (fun k wr hk ⟨v, hb, ho⟩ hf => ?_)
  have b1 := dl_bounds HO.out (by decide) (k + 1) hk
  obtain ⟨a1, a2, a3, a4⟩ := HO.out k hk
  have t1 : IntKind.i64.wrap (dl xs ys (k + 1) - ys.getD k 0) = dl xs ys (k + 1) - ys.getD k 0 := IntWalk.i64_in _ (by omega)
  have t2 : IntKind.i64.wrap (dl xs ys (k + 1) - ys.getD k 0 - xs.getD k 0) = dl xs ys (k + 1) - ys.getD k 0 - xs.getD k 0 := IntWalk.i64_in _ (by omega)
  refine (tell29 B g k v _ _ _ _ wr t1 t2 (by omega) (Nat.le_trans hX.hB hf.size) hBg hb ho).mono ?_
  rintro e w' ⟨rfl, v', h1, h2, h3⟩
  exact ⟨rfl, ⟨v', h1, by rw [wts_succ]; exact h2⟩, h3⟩

section
variable (A A2 : Option Addr) (n n2 c c2 B : Nat) (xs ys : List Int) (w : World)
set_option maxHeartbeats 8000000 in
theorem waits_t (hX : LI w A n B xs) (hY : LI w A2 n2 B ys) :
    Calls Try.prog 14 #[.slice A n c, .slice A2 n2 c2] w fun e w' => ∃ v, e = .returned (.tuple #[v, .int .i64 (chk xs ys 1125899906842624)]) ∧ OwnI w' w.heap.size v (wV xs ys).length (wV xs ys) ∧ Frm w w' NoB := by
  obtain ⟨e0, he⟩ : ∃ e, chk xs ys 1125899906842624 = e := ⟨_, rfl⟩
  have hmf : ∀ (fn : Fn) (first cap : Array Value) (w : World), (Instr.makeFunc fn first cap).run Try.prog w = .ok (.func fn first cap) w := fun _ _ _ _ => rfl
  by_cases h0 : e0 = 0
  · subst h0
    obtain ⟨h1, h2, h3, h4⟩ := chk_zero he
    have hp : wV xs ys = wts xs ys n := by unfold wV; rw [if_pos he, hX.HN]
    have hnn : n = n2 := by rw [← hX.HN, ← hY.HN]; exact h1
    subst hnn
    have HO : Hid (oks xs ys 1125899906842624 n) := by rw [← hX.HN]; exact h3
    have Hn : Hid (n ≤ 512) := by rw [← hX.HN]; exact h2
    rw [he, hp, wts_len]
    have HE := Lib.hid he
    clear he hp h1 h2 h3 h4
    go_enter Try.func14, Try.ntmps14
    go_wp2_with (first
      | (go_at_call 24; (with_reducible refine (check_b HE hX hY).mono ?_); rintro e x1 ⟨rfl, f1⟩; have hX1 := ((hX.frm f1).alloc (.cells #[.slice none 0 0] 22)).more (B' := w.heap.size) hX.hB (by have := f1.size; simp; omega); have hY1 := ((hY.frm f1).alloc (.cells #[.slice none 0 0] 22)).more (B' := w.heap.size) hY.hB (by have := f1.size; simp; omega); have hG : Blk (x1.alloc (.cells #[.slice none 0 0] 22)) x1.heap.size 22 #[.slice none 0 0] := Blk.new _ _ _; have hF := f1.alloc (.cells #[.slice none 0 0] 22); have hs1 := f1.size; clear hX hY)
      | (go_at_call 28; (with_reducible refine (wserve hX1 hY1 Hn.out HO hs1 hG).mono ?_); rintro e w2 ⟨rfl, ⟨v, hb, ho⟩, f2⟩; have c0 : w2.cell? ⟨x1.heap.size, 0, none⟩ = some v := hb.cellIs rfl))
    go_ret2
    exact ⟨_, rfl, ho, hF.trans f2 (fun i h1 h2 => absurd h1 (Nat.not_lt.2 h2))⟩
  · have hp : wV xs ys = [] := by unfold wV; rw [he, if_neg h0]
    rw [he, hp]
    have HE := Lib.hid he
    have hb : (e0 != 0) = true := by rw [bne_iff_ne]; exact h0
    clear he hp h0
    go_enter Try.func14, Try.ntmps14
    go_wp2_with (first | (go_at_call 24; (with_reducible refine (check_b HE hX hY).mono ?_); rintro e x1 ⟨rfl, f1⟩))
    go_ret2
    exact ⟨_, rfl, World.ownsRow_nil _ _ _ _, f1⟩
end
end Go.Proofs.Ytdfikembgljpkaa
