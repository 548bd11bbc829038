/- An argument that is a nil slice of ints has no room. -/
import Derived.Test.YtdfikembgljpkaaOpen
namespace Go.Proofs.Ytdfikembgljpkaa
open Go.ChangeShapes Go.WideShapes Go.ChangeAt Go.RowKit Go.Deep
theorem open_nil {H : Type} {enc : TypeId × Value → H} {W : World} {fuel : Nat} {cs : List Value} {x : DataW H × List MemPlace}
    (h : DataW.trod enc Try.prog W 0 (fun _ => true) true fuel 22 cs = some x) {A : Option Addr} {n c : Nat} (e : cs = [.slice A n c]) : A = none → c = 0 := by
  rcases open_slice Try.underlying22 h with ⟨rfl, _⟩ | ⟨a, len, cap, m, fu, D, Pl, rfl, _⟩
  · simp only [List.cons.injEq, Value.slice.injEq, and_true] at e
    exact fun _ => e.2.2.symm
  · simp only [List.cons.injEq, Value.slice.injEq, and_true] at e
    intro ha
    rw [ha] at e
    cases e.1
theorem open_cap {H : Type} {enc : TypeId × Value → H} {W : World} {fuel : Nat} {cs : List Value} {x : DataW H × List MemPlace}
    (h : DataW.trod enc Try.prog W 0 (fun _ => true) true fuel 36 cs = some x) {A : Option Addr} {n c : Nat} (e : cs = [.slice A n c]) : n ≤ c := by
  rcases open_slice Try.underlying36 h with ⟨rfl, _⟩ | ⟨a, len, cap, m, fu, D, Pl, rfl, _, hl, _⟩
  · simp only [List.cons.injEq, Value.slice.injEq, and_true] at e
    omega
  · simp only [List.cons.injEq, Value.slice.injEq, and_true] at e
    omega
end Go.Proofs.Ytdfikembgljpkaa
