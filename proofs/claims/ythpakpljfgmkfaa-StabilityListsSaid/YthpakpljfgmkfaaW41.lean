/- slices.Clone. -/
import Derived.Test.YthpakpljfgmkfaaW40
namespace Go.Proofs.Ythpakpljfgmkfaa
open Go.RowKit

theorem addr_add (b o j : Nat) : (⟨b, o, none⟩ : Addr).add j = ⟨b, o + j, none⟩ := by unfold Addr.add; split <;> simp_all
theorem LI.news {w : World} {p : Addr} {n B : Nat} {xs : List Int} (h : LI w (some p) n B xs) : ∀ j u, (xs.map (Value.int .i64))[j]? = some u → w.cell? (p.add j) = some u := by
  intro j u hj
  have hjn : j < xs.length := by
    rcases Nat.lt_or_ge j xs.length with h | h
    · exact h
    · rw [List.getElem?_eq_none (by simpa using h)] at hj; cases hj
  obtain ⟨b', o', e, hb, hc⟩ := h.hA.pos (by omega)
  simp only [Option.some.injEq] at e
  subst e
  have hq := hc j hjn
  have hu : u = .int .i64 (xs.getD j 0) := by
    simp [List.getElem?_eq_getElem hjn] at hj
    rw [← hj]
    simp [List.getD, List.getElem?_eq_getElem hjn]
  rw [hu, addr_add]
  exact hq
set_option maxHeartbeats 4000000 in
theorem clone_some (p : Addr) (n c B : Nat) (xs : List Int) (w : World) (hX : LI w (some p) n B xs) (hn : n ≤ 1100) :
    Calls Try.prog 17 #[.slice (some p) n c] w fun e w' => ∃ A' c', e = .returned (.slice A' n c') ∧ LI w' A' n w'.heap.size xs ∧ Frm w w' NoB := by
  obtain ⟨i0, hi, hz0, hz1, hz2⟩ := info_parts int_info
  have hF : Frm w w NoB := Frm.refl w _
  have HN := Lib.hid hX.HN
  have he : ∀ w : World, (binOp .eql 23 (.slice (some p) n c) (.slice none 0 0)).run Try.prog w = .ok (.bool false) w := fun _ => by kernel_rfl
  have hF2 := hF.alloc (.cells #[] 3)
  have HCL := Lib.hid (hX.frm hF2).news
  have hown : (w.alloc (.cells #[] 3)).ownsRow w.heap.size 3 1 (.slice (some ⟨w.heap.size, 0, none⟩) 0 0) 0 [] := World.ownsRow_lit w #[] 0 (Nat.le_refl _) (by decide) rfl
  clear hX
  go_enter Try.func17, Try.ntmps17
  go_wp2_with (first
    | (at_builtin; refine wpList_append_own _ rfl _ _ 23 rfl w.heap.size 3 i0 (.int .i64 0) 1 8 Try.underlying23 hi hz0 hz1 hz2 rfl (by decide) _ 0 [] rfl hown p n c (xs.map (Value.int .i64)) rfl ?c0 HCL.out ?c2 ?c3 ?c4 ?c5 ?_)
    | go_in)
  case c0 => simp [HN.out]
  case c2 => intro u hu; simp at hu; obtain ⟨x, _, rfl⟩ := hu; rfl
  case c3 => unfold maxLen; omega
  case c4 => omega
  case c5 => simp
  intro v' w1 hown' hgrow _
  have hown3 : OwnI w1 w.heap.size v' n xs := by simpa [OwnI] using hown'
  have hF3 := hF2.grown hgrow (fun j hj hlt => absurd (hown.lt j hj).1 (by omega))
  obtain ⟨A', c', rfl, _, hl⟩ := hown3.li (by omega)
  clear hown' hown3 hgrow hown
  go_wp2
  go_ret
  exact ⟨_, _, rfl, hl, hF3⟩
set_option maxHeartbeats 4000000 in
theorem clone_nil (c : Nat) (w : World) :
    Calls Try.prog 17 #[.slice none 0 c] w fun e w' => ∃ A' c', e = .returned (.slice A' 0 c') ∧ LI w' A' 0 w'.heap.size [] ∧ Frm w w' NoB := by
  have hF : Frm w w NoB := Frm.refl w _
  have he : ∀ w : World, (binOp .eql 23 (.slice none 0 c) (.slice none 0 0)).run Try.prog w = .ok (.bool true) w := fun _ => by kernel_rfl
  go_enter Try.func17, Try.ntmps17
  go_wp2
  go_ret
  exact ⟨_, _, rfl, ⟨by decide, rfl, .inl rfl, Nat.le_refl _⟩, hF⟩
theorem clone_s {A : Option Addr} {n c B : Nat} {xs : List Int} {w : World} (hX : LI w A n B xs) (hn : n ≤ 1100) :
    Calls Try.prog 17 #[.slice A n c] w fun e w' => ∃ A' c', e = .returned (.slice A' n c') ∧ LI w' A' n w'.heap.size xs ∧ Frm w w' NoB := by
  cases A with
  | some p => exact clone_some p n c B xs w hX hn
  | none =>
    have h0 : xs = [] := by
      rcases hX.hA with e | ⟨b, o, e, _⟩
      · exact e
      · cases e
    have hN := hX.HN
    subst h0
    obtain rfl : n = 0 := hN.symm
    exact clone_nil c w
end Go.Proofs.Ythpakpljfgmkfaa
