/- Busy of the program. -/
import Derived.Test.YtdfikembgljpkaaW13
namespace Go.Proofs.Ytdfikembgljpkaa
open Go.RowKit

theorem tell30 (B g : Nat) (v : Value) (l : List (Int × Int)) (a s D : Int) (w : World) (hl : l.length ≤ 600) (hB : B ≤ w.heap.size) (hBg : B ≤ g) (hg : Blk w g 28 #[v]) (hown : OwnV w B v l) :
    Calls Try.prog 30 #[.int .i64 a, .int .i64 s, .int .i64 D, .pointer (some ⟨g, 0, none⟩)] w fun e w' => e = .returned (.tuple #[]) ∧
      ∃ v', Blk w' g 28 #[v'] ∧ OwnV w' B v' (stp l a D) ∧ Frm w w' (Up B) := by
  rcases List.eq_nil_or_concat l with rfl | ⟨m, p, rfl⟩
  · exact tell30_nil B g v a s D w hB hBg hg hown
  · obtain ⟨x, y⟩ := p
    rw [List.concat_eq_append] at hown hl ⊢
    exact tell30_app B g v m x y a s D w (by simp at hl; omega) hB hBg hg hown

theorem bserve {A A2 : Option Addr} {n c c2 B g : Nat} {xs ys : List Int} {w : World} (hX : LI w A n B xs) (hY : LI w A2 n B ys) (hn : n ≤ 512) (HO : Hid (oks xs ys 1125899906842624 n)) (hBg : B ≤ g) (hG : Blk w g 28 #[.slice none 0 0]) :
    Calls Try.prog 28 #[.slice A n c, .slice A2 n c2, .func (.func 30) #[] #[.pointer (some ⟨g, 0, none⟩)]] w fun e w' => e = .returned (.tuple #[]) ∧ (∃ v, Blk w' g 28 #[v] ∧ OwnV w' B v (bsy xs ys n)) ∧ Frm w w' (Up B) := by
  refine serve30 (I := fun k wr => ∃ v, Blk wr g 28 #[v] ∧ OwnV wr B v (bsy xs ys k)) A A2 n c c2 B g xs ys w hX hY hn (fits_of HO.out (by decide) (by decide) hn) ⟨_, hG, World.ownsRow_nil _ _ _ _⟩ (fun k wr hk ⟨v, hb, ho⟩ hf => ?_)
  refine (tell30 B g v _ _ _ _ wr (by have := bsy_len xs ys k; omega) (Nat.le_trans hX.hB hf.size) hBg hb ho).mono ?_
  rintro e w' ⟨rfl, v', h1, h2, h3⟩
  exact ⟨rfl, ⟨v', h1, h2⟩, h3⟩

section
variable (A A2 : Option Addr) (n n2 c c2 B : Nat) (xs ys : List Int) (w : World)
set_option maxHeartbeats 8000000 in
theorem busy_t (hX : LI w A n B xs) (hY : LI w A2 n2 B ys) :
    Calls Try.prog 17 #[.slice A n c, .slice A2 n2 c2] w fun e w' => ∃ v, e = .returned (.tuple #[v, .int .i64 (chk xs ys 1125899906842624)]) ∧ OwnV w' w.heap.size v (bV xs ys) ∧ Frm w w' NoB := by
  obtain ⟨e0, he⟩ : ∃ e, chk xs ys 1125899906842624 = e := ⟨_, rfl⟩
  have hmf : ∀ (fn : Fn) (first cap : Array Value) (w : World), (Instr.makeFunc fn first cap).run Try.prog w = .ok (.func fn first cap) w := fun _ _ _ _ => rfl
  by_cases h0 : e0 = 0
  · subst h0
    obtain ⟨h1, h2, h3, h4⟩ := chk_zero he
    have hp : bV xs ys = bsy xs ys n := by unfold bV; rw [if_pos he, hX.HN]
    have hnn : n = n2 := by rw [← hX.HN, ← hY.HN]; exact h1
    subst hnn
    have HO : Hid (oks xs ys 1125899906842624 n) := by rw [← hX.HN]; exact h3
    have Hn : Hid (n ≤ 512) := by rw [← hX.HN]; exact h2
    rw [he, hp]
    have HE := Lib.hid he
    clear he hp h1 h2 h3 h4
    go_enter Try.func17, Try.ntmps17
    go_wp2_with (first
      | (go_at_call 24; (with_reducible refine (check_b HE hX hY).mono ?_); rintro e x1 ⟨rfl, f1⟩; have hX1 := ((hX.frm f1).alloc (.cells #[.slice none 0 0] 28)).more (B' := w.heap.size) hX.hB (by have := f1.size; simp; omega); have hY1 := ((hY.frm f1).alloc (.cells #[.slice none 0 0] 28)).more (B' := w.heap.size) hY.hB (by have := f1.size; simp; omega); have hG : Blk (x1.alloc (.cells #[.slice none 0 0] 28)) x1.heap.size 28 #[.slice none 0 0] := Blk.new _ _ _; have hF := f1.alloc (.cells #[.slice none 0 0] 28); have hs1 := f1.size; clear hX hY)
      | (go_at_call 28; (with_reducible refine (bserve hX1 hY1 Hn.out HO hs1 hG).mono ?_); rintro e w2 ⟨rfl, ⟨v, hb, ho⟩, f2⟩; have c0 : w2.cell? ⟨x1.heap.size, 0, none⟩ = some v := hb.cellIs rfl))
    go_ret2
    exact ⟨_, rfl, ho, hF.trans f2 (fun i h1 h2 => absurd h1 (Nat.not_lt.2 h2))⟩
  · have hp : bV xs ys = [] := by unfold bV; rw [he, if_neg h0]
    rw [he, hp]
    have HE := Lib.hid he
    have hb : (e0 != 0) = true := by rw [bne_iff_ne]; exact h0
    clear he hp h0
    go_enter Try.func17, Try.ntmps17
    go_wp2_with (first | (go_at_call 24; (with_reducible refine (check_b HE hX hY).mono ?_); rintro e x1 ⟨rfl, f1⟩))
    go_ret2
    exact ⟨_, rfl, World.ownsRow_nil _ _ _ _, f1⟩
end
end Go.Proofs.Ytdfikembgljpkaa
