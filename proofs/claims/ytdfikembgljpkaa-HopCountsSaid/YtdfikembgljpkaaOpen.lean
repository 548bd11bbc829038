/- An argument that is a slice of ints, or a slice of such slices, opened to its cells. -/
import Derived.Test.YtdfikembgljpkaaInts
import Derived.ProofKit
import Derived.OpenShut
import Derived.Deep.Slices
import Derived.Deep.Fields
import Derived.ChangeSame
namespace Go.Proofs.Ytdfikembgljpkaa
open Go.ChangeShapes Go.WideShapes Go.ChangeAt Go.RowKit Go.Deep

theorem laidOut : laidOutB Try.prog = true := by kernel_rfl

section
variable {H : Type} {enc : TypeId × Value → H} {W : World} {B : Nat}
theorem open_li {fuel : Nat} {cs : List Value} {x : DataW H × List MemPlace}
    (h : DataW.trod enc Try.prog W 0 (fun _ => true) true fuel 22 cs = some x) (hlt : ∀ y ∈ x.2, y.block < B) :
    ∃ (A : Option Addr) (n c : Nat), cs = [.slice A n c] ∧ ∃ xs : List Int, xs.length = n ∧ RdI W B A xs := by
  have h3 : Try.prog.cellsOf 3 = 1 := by kernel_rfl
  rcases open_slice Try.underlying22 h with ⟨rfl, _⟩ | ⟨a, len, cap, m, fu, D, Pl, rfl, _, hl, _, hm, rfl, hi⟩
  · exact ⟨_, _, _, rfl, [], rfl, .inl rfl⟩
  · simp only [if_true] at hm
    subst hm
    have hall : ∀ i, ∃ z : Int, i < m → W.cell? (a.add i) = some (.int .i64 z) := by
      intro i
      by_cases him : i < m
      · obtain ⟨cs', hc, ht'⟩ := hi i him
        rw [h3] at hc
        obtain ⟨_, hcl, hat⟩ := World.cells?_some hc
        match cs', hcl with
        | [c0], _ =>
          obtain ⟨z0, e0, _, _⟩ := DataW.trod_int Try.underlying3 ht'
          simp at e0
          have k0 := hat 0 (by omega)
          refine ⟨z0, fun _ => ?_⟩
          rw [← e0]; simpa [Addr.add] using k0
      · exact ⟨0, fun h => absurd h him⟩
    obtain ⟨f, hf⟩ := Classical.axiomOfChoice hall
    refine ⟨_, _, _, rfl, (List.range len).map f, by simp, ?_⟩
    by_cases hz : len = 0
    · subst hz; exact .inl rfl
    · obtain ⟨b, off, spot⟩ := a
      have hspot : spot = none := by
        have := World.cell?_spot (hf 0 (by omega))
        simpa [Addr.add] using this
      subst hspot
      have hb : b < B := hlt (.cell b off) (List.mem_append_left _ (MemPlace.mem_row.2 ⟨0, by rw [h3]; omega, by simp⟩))
      refine .inr ⟨b, off, rfl, hb, fun j hj => ?_⟩
      have hj' : j < len := by simpa using hj
      have hg : ((List.range len).map f).getD j 0 = f j := by simp [List.getD, List.getElem?_map, List.getElem?_range hj']
      rw [hg]
      have k0 := hf j (by omega)
      rw [add_plain] at k0
      exact k0

/-- A slice of slices of ints reads as the lists ss. -/
def RdS (w : World) (B : Nat) (A : Option Addr) (ss : List (List Int)) : Prop :=
  ss = [] ∨ ∃ b o, A = some ⟨b, o, none⟩ ∧ b < B ∧ ∀ j, j < ss.length → ∃ Aj cj, w.cell? ⟨b, o + j, none⟩ = some (.slice Aj (ss.getD j []).length cj) ∧ RdI w B Aj (ss.getD j [])

theorem open_lss {fuel : Nat} {cs : List Value} {x : DataW H × List MemPlace}
    (h : DataW.trod enc Try.prog W 0 (fun _ => true) true fuel 36 cs = some x) (hlt : ∀ y ∈ x.2, y.block < B) :
    ∃ (A : Option Addr) (n c : Nat), cs = [.slice A n c] ∧ ∃ ss : List (List Int), ss.length = n ∧ RdS W B A ss := by
  have h3 : Try.prog.cellsOf 22 = 1 := by kernel_rfl
  rcases open_slice Try.underlying36 h with ⟨rfl, _⟩ | ⟨a, len, cap, m, fu, D, Pl, rfl, _, hl, _, hm, rfl, hi⟩
  · exact ⟨_, _, _, rfl, [], rfl, .inl rfl⟩
  · simp only [if_true] at hm
    subst hm
    have hall : ∀ i, ∃ z : List Int, i < m → ∃ Aj cj, W.cell? (a.add i) = some (.slice Aj z.length cj) ∧ RdI W B Aj z := by
      intro i
      by_cases him : i < m
      · obtain ⟨cs', hc, ht'⟩ := hi i him
        rw [h3] at hc
        obtain ⟨_, hcl, hat⟩ := World.cells?_some hc
        obtain ⟨Aj, nj, cj, rfl, xs, hxl, hxr⟩ := open_li (B := B) ht' (fun y hy => hlt y (by
          simp only [List.mem_append, List.mem_flatMap, List.mem_range]
          exact .inr ⟨i, him, hy⟩))
        subst hxl
        have k0 := hat 0 (by simp)
        refine ⟨xs, fun _ => ⟨Aj, cj, ?_, hxr⟩⟩
        simpa [Addr.add] using k0
      · exact ⟨[], fun h => absurd h him⟩
    obtain ⟨f, hf⟩ := Classical.axiomOfChoice hall
    refine ⟨_, _, _, rfl, (List.range len).map f, by simp, ?_⟩
    by_cases hz : len = 0
    · subst hz; exact .inl rfl
    · obtain ⟨b, off, spot⟩ := a
      have hspot : spot = none := by
        obtain ⟨_, _, k, _⟩ := hf 0 (by omega)
        have := World.cell?_spot k
        simpa [Addr.add] using this
      subst hspot
      have hb : b < B := hlt (.cell b off) (List.mem_append_left _ (MemPlace.mem_row.2 ⟨0, by rw [h3]; omega, by simp⟩))
      refine .inr ⟨b, off, rfl, hb, fun j hj => ?_⟩
      have hj' : j < len := by simpa using hj
      have hg : ((List.range len).map f).getD j [] = f j := by simp [List.getD, List.getElem?_map, List.getElem?_range hj']
      rw [hg]
      obtain ⟨Aj, cj, k0, hr⟩ := hf j (by omega)
      rw [add_plain] at k0
      exact ⟨Aj, cj, k0, hr⟩
end
end Go.Proofs.Ytdfikembgljpkaa
