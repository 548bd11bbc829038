/- The intervals of Busy: the model of one step. -/
import Derived.Test.YtdfikembgljpkaaW10
namespace Go.Proofs.Ytdfikembgljpkaa
open Go.RowKit

/-- The cells of a list of intervals. -/
def ivc (l : List (Int × Int)) : List Value := l.flatMap fun p => [.int .i64 p.1, .int .i64 p.2]
theorem ivc_len (l : List (Int × Int)) : (ivc l).length = l.length * 2 := by
  induction l with
  | nil => rfl
  | cons p l ih => simp [ivc] at ih ⊢; omega
theorem ivc_app (l m : List (Int × Int)) : ivc (l ++ m) = ivc l ++ ivc m := by simp [ivc]
theorem ivc_last (l : List (Int × Int)) (p : Int × Int) : (ivc (l ++ [p]))[l.length * 2]? = some (.int .i64 p.1) ∧ (ivc (l ++ [p]))[l.length * 2 + 1]? = some (.int .i64 p.2) := by
  rw [ivc_app]
  constructor
  · rw [List.getElem?_append_right (by rw [ivc_len]; omega), ivc_len]; simp [ivc]
  · rw [List.getElem?_append_right (by rw [ivc_len]; omega), ivc_len]; simp [ivc]
theorem ivc_set (l : List (Int × Int)) (a b d : Int) : (ivc (l ++ [(a, b)])).set (l.length * 2 + 1) (.int .i64 d) = ivc (l ++ [(a, d)]) := by
  rw [ivc_app, ivc_app, List.set_append_right (h := by rw [ivc_len]; omega), ivc_len]
  simp [ivc]
abbrev OwnV (w : World) (B : Nat) (v : Value) (l : List (Int × Int)) : Prop := w.ownsRow B 33 2 v l.length (ivc l)

/-- One message with its arrival and its departure. -/
def stp (l : List (Int × Int)) (a d : Int) : List (Int × Int) :=
  match l.getLast? with
  | some p => if a ≤ p.2 then l.dropLast ++ [(p.1, d)] else if a < d then l ++ [(a, d)] else l
  | none => if a < d then l ++ [(a, d)] else l
theorem stp_nil (a d : Int) : stp [] a d = if a < d then [(a, d)] else [] := by simp [stp]
theorem stp_app (l : List (Int × Int)) (x y a d : Int) : stp (l ++ [(x, y)]) a d = if a ≤ y then l ++ [(x, d)] else if a < d then l ++ [(x, y)] ++ [(a, d)] else l ++ [(x, y)] := by
  simp [stp]
/-- The intervals after k messages. -/
def bsy (xs ys : List Int) : Nat → List (Int × Int)
  | 0 => []
  | k + 1 => stp (bsy xs ys k) (xs.getD k 0) (dl xs ys (k + 1))
theorem stp_len (l : List (Int × Int)) (a d : Int) : (stp l a d).length ≤ l.length + 1 := by
  rcases List.eq_nil_or_concat l with rfl | ⟨m, p, rfl⟩
  · rw [stp_nil]; split <;> simp
  · obtain ⟨x, y⟩ := p
    rw [List.concat_eq_append, stp_app]
    split
    · simp
    · split <;> simp
theorem bsy_len (xs ys : List Int) : ∀ k, (bsy xs ys k).length ≤ k
  | 0 => Nat.le_refl _
  | k + 1 => by
    have := stp_len (bsy xs ys k) (xs.getD k 0) (dl xs ys (k + 1))
    have := bsy_len xs ys k
    unfold bsy
    omega
/-- The list that Busy returns. -/
noncomputable def bV (xs ys : List Int) : List (Int × Int) := if chk xs ys 1125899906842624 = 0 then bsy xs ys xs.length else []
theorem iv_info : (Try.prog.info? 33).map (fun i => (i.zero, i.size, i.bytes)) = some (some (.agg #[.int .i64 0, .int .i64 0]), 2, 16) := by kernel_rfl
end Go.Proofs.Ytdfikembgljpkaa
