/- What Check of the program and of the reference return. -/
import Derived.Test.YtchmaecakjeceaaW1
namespace Go.Proofs.Ytchmaecakjeceaa
open Go.RowKit

/-- A change of a link. -/
structure Chg where
  at_ : Int
  dir : Int
  del : Int
def Chg.z : Chg := ⟨0, 0, 0⟩

/-- A slice at A reads as the changes cs, in memory below block B. -/
def RdC (w : World) (B : Nat) (A : Option Addr) (cs : List Chg) : Prop :=
  cs = [] ∨ ∃ b o, A = some ⟨b, o, none⟩ ∧ b < B ∧ ∀ j, j < cs.length →
    w.cell? ⟨b, o + j * 3, none⟩ = some (.int .i64 (cs.getD j Chg.z).at_) ∧ w.cell? ⟨b, o + j * 3 + 1, none⟩ = some (.int .i64 (cs.getD j Chg.z).dir) ∧
    w.cell? ⟨b, o + j * 3 + 2, none⟩ = some (.int .i64 (cs.getD j Chg.z).del)
section
variable {w w' : World} {B : Nat} {A : Option Addr} {cs : List Chg} {S : Nat → Prop}
theorem RdC.frm (h : RdC w B A cs) (hf : Frm w w' NoB) (hB : B ≤ w.heap.size) : RdC w' B A cs := by
  rcases h with h | ⟨b, o, h1, h2, h3⟩
  · exact .inl h
  · have hb : b < w.heap.size := by omega
    exact .inr ⟨b, o, h1, h2, fun j hj => ⟨(hf.cell (p := ⟨b, _, none⟩) hb (fun e => e)).trans (h3 j hj).1, (hf.cell (p := ⟨b, _, none⟩) hb (fun e => e)).trans (h3 j hj).2.1, (hf.cell (p := ⟨b, _, none⟩) hb (fun e => e)).trans (h3 j hj).2.2⟩⟩
theorem RdC.pos (h : RdC w B A cs) (hx : 0 < cs.length) : ∃ b o, A = some ⟨b, o, none⟩ ∧ b < B ∧ ∀ j, j < cs.length →
    w.cell? ⟨b, o + j * 3, none⟩ = some (.int .i64 (cs.getD j Chg.z).at_) ∧ w.cell? ⟨b, o + j * 3 + 1, none⟩ = some (.int .i64 (cs.getD j Chg.z).dir) ∧
    w.cell? ⟨b, o + j * 3 + 2, none⟩ = some (.int .i64 (cs.getD j Chg.z).del) := by
  rcases h with h | h
  · subst h; simp at hx
  · exact h
end

def hd (d0 d1 v0 v1 ls : Int) : Bool := (okr 10000000000 d0 && okr 10000000000 d1) && (okr 10000000000 v0 && okr 10000000000 v1) && okr 1000 ls
def okc (c : Chg) : Bool := okr 1125899906842624 c.at_ && okr 1 c.dir && okr 10000000000 c.del
def allc (cs : List Chg) : Prop := ∀ j, j < cs.length → okc (cs.getD j Chg.z) = true
def ordc (cs : List Chg) : Prop := ∀ j, j + 1 < cs.length → (cs.getD j Chg.z).at_ ≤ (cs.getD (j + 1) Chg.z).at_
open Classical in
/-- The first error of a link, 0 if there is none. -/
noncomputable def chk (d0 d1 v0 v1 ls : Int) (cs : List Chg) : Int :=
  if hd d0 d1 v0 v1 ls = false then 3 else if ¬ allc cs then 3 else if 16 < cs.length then 6 else if ordc cs then 0 else 12

theorem chk_hd {d0 d1 v0 v1 ls : Int} {cs : List Chg} (h : hd d0 d1 v0 v1 ls = false) : chk d0 d1 v0 v1 ls cs = 3 := by unfold chk; rw [if_pos h]
theorem chk_bad {d0 d1 v0 v1 ls : Int} {cs : List Chg} (k : Nat) (hk : k < cs.length) (h : okc (cs.getD k Chg.z) = false) : chk d0 d1 v0 v1 ls cs = 3 := by
  have hn : ¬ allc cs := fun ha => by have := ha k hk; rw [h] at this; cases this
  unfold chk
  by_cases hh : hd d0 d1 v0 v1 ls = false
  · rw [if_pos hh]
  · rw [if_neg hh, if_pos hn]
theorem chk_long {d0 d1 v0 v1 ls : Int} {cs : List Chg} (h : hd d0 d1 v0 v1 ls = true) (ha : allc cs) (hl : 16 < cs.length) : chk d0 d1 v0 v1 ls cs = 6 := by
  unfold chk; rw [if_neg (by rw [h]; decide), if_neg (fun h => h ha), if_pos hl]
theorem chk_ord {d0 d1 v0 v1 ls : Int} {cs : List Chg} (h : hd d0 d1 v0 v1 ls = true) (ha : allc cs) (hl : ¬ 16 < cs.length) (k : Nat) (hk : k + 1 < cs.length) (hb : (cs.getD (k + 1) Chg.z).at_ < (cs.getD k Chg.z).at_) :
    chk d0 d1 v0 v1 ls cs = 12 := by
  unfold chk; rw [if_neg (by rw [h]; decide), if_neg (fun h => h ha), if_neg hl, if_neg (fun ho => by have := ho k hk; omega)]
theorem chk_ok {d0 d1 v0 v1 ls : Int} {cs : List Chg} (h : hd d0 d1 v0 v1 ls = true) (ha : allc cs) (hl : ¬ 16 < cs.length) (ho : ordc cs) : chk d0 d1 v0 v1 ls cs = 0 := by
  unfold chk; rw [if_neg (by rw [h]; decide), if_neg (fun h => h ha), if_neg hl, if_pos ho]
theorem chk_zero {d0 d1 v0 v1 ls : Int} {cs : List Chg} (h : chk d0 d1 v0 v1 ls cs = 0) : hd d0 d1 v0 v1 ls = true ∧ allc cs ∧ cs.length ≤ 16 ∧ ordc cs := by
  unfold chk at h
  split at h
  · cases h
  · rename_i h1
    split at h
    · cases h
    · rename_i h2
      split at h
      · cases h
      · rename_i h3
        split at h
        · rename_i h4
          exact ⟨by cases hh : hd d0 d1 v0 v1 ls; · exact absurd hh h1
                    · rfl, Classical.not_not.1 h2, by omega, h4⟩
        · cases h

theorem in_b {hi a b : Int} {p : Bool} (H : Hid ((okr hi a && okr hi b) = p)) (w : World) :
    Calls Try.prog 26 #[.int .i64 hi, .agg #[.int .i64 a, .int .i64 b]] w fun e w' => e = .returned (.bool p) ∧ Frm w w' NoB := by
  have h := in_t hi a b w
  rw [H.out] at h
  exact h
theorem rright_b {hi x : Int} {p : Bool} (H : Hid (okr hi x = p)) (w : World) :
    Calls Try.prog 27 #[.int .i64 x, .int .i64 hi] w fun e w' => e = .returned (.bool p) ∧ w = w' := by
  have h := rright_t x hi w
  rw [H.out] at h
  exact h
/-- in's answer for one number beside 0. -/
theorem hid0 {hi x : Int} {p : Bool} (h0 : 0 ≤ hi) (H : okr hi x = p) : Hid ((okr hi x && okr hi 0) = p) := by
  have h2 : okr hi 0 = true := okr_iff.2 ⟨by omega, h0⟩
  show (okr hi x && okr hi 0) = p
  rw [h2, Bool.and_true, H]
theorem hid1 {hi x : Int} {p : Bool} (H : okr hi x = p) : Hid (okr hi x = p) := H

/-- What is known of the changes before the k-th one. -/
def allk (cs : List Chg) (k : Nat) : Prop := ∀ j, j < k → okc (cs.getD j Chg.z) = true
def ordk (cs : List Chg) (k : Nat) : Prop := ∀ j, j + 1 < k → (cs.getD j Chg.z).at_ ≤ (cs.getD (j + 1) Chg.z).at_
theorem allk_succ {cs : List Chg} {k : Nat} (h : allk cs k) (e : okc (cs.getD k Chg.z) = true) : allk cs (k + 1) := fun j hj => by
  rcases Nat.lt_or_ge j k with h1 | h1
  · exact h j h1
  · have : j = k := by omega
    subst this; exact e
theorem ordk_succ {cs : List Chg} {k : Nat} (h : ordk cs k) (e : (cs.getD (k - 1) Chg.z).at_ ≤ (cs.getD k Chg.z).at_) (hk : 1 ≤ k) : ordk cs (k + 1) := fun j hj => by
  rcases Nat.lt_or_ge (j + 1) k with h1 | h1
  · exact h j h1
  · have : k = j + 1 := by omega
    subst this; exact e
theorem okc_of {c : Chg} {x y z : Int} {p q r : Bool} (hx : x = c.at_) (hy : y = c.dir) (hz : z = c.del) (hp : okr 1125899906842624 x = p) (hq : okr 1 y = q) (hr : okr 10000000000 z = r) :
    okc c = (p && q && r) := by unfold okc; rw [← hx, ← hy, ← hz, hp, hq, hr]

/-- The block in which a link that is a parameter lies. -/
abbrev LkCells (d0 d1 v0 v1 ls sd : Int) (A : Option Addr) (n c : Nat) : Array Value := #[.int .i64 d0, .int .i64 d1, .int .i64 v0, .int .i64 v1, .int .i64 ls, .int .u64 sd, .slice A n c]

theorem lk_cells {w : World} {g : Nat} {d0 d1 v0 v1 ls sd : Int} {A : Option Addr} {n c : Nat} (h : Blk w g 26 (LkCells d0 d1 v0 v1 ls sd A n c)) :
    w.cell? ⟨g, 0, none⟩ = some (.int .i64 d0) ∧ w.cell? ⟨g, 1, none⟩ = some (.int .i64 d1) ∧ w.cell? ⟨g, 2, none⟩ = some (.int .i64 v0) ∧ w.cell? ⟨g, 3, none⟩ = some (.int .i64 v1) ∧
    w.cell? ⟨g, 4, none⟩ = some (.int .i64 ls) ∧ w.cell? ⟨g, 5, none⟩ = some (.int .u64 sd) ∧ w.cell? ⟨g, 6, none⟩ = some (.slice A n c) :=
  ⟨h.cellIs rfl, h.cellIs rfl, h.cellIs rfl, h.cellIs rfl, h.cellIs rfl, h.cellIs rfl, h.cellIs rfl⟩

set_option maxRecDepth 100000 in
set_option maxHeartbeats 4000000 in
theorem check_hd (d0 d1 v0 v1 ls sd : Int) (A : Option Addr) (n c : Nat) (p1 p2 p3 : Bool) (w : World)
    (H1 : Hid ((okr 10000000000 d0 && okr 10000000000 d1) = p1)) (H2 : Hid ((okr 10000000000 v0 && okr 10000000000 v1) = p2)) (H3 : Hid ((okr 1000 ls && okr 1000 0) = p3)) (hf : (p1 && p2 && p3) = false) :
    Calls Try.prog 12 #[.agg #[.int .i64 d0, .int .i64 d1, .int .i64 v0, .int .i64 v1, .int .i64 ls, .int .u64 sd, .slice A n c]] w fun e w' => e = .returned (.int .i64 3) ∧ Frm w w' NoB := by
  have hB : Blk (w.alloc (.cells (LkCells d0 d1 v0 v1 ls sd A n c) 26)) w.heap.size 26 (LkCells d0 d1 v0 v1 ls sd A n c) := Blk.new _ _ _
  have hF : Frm w (w.alloc (.cells (LkCells d0 d1 v0 v1 ls sd A n c) 26)) NoB := (Frm.refl w _).alloc _
  have ht : p1 = false ∨ (p1 = true ∧ p2 = false) ∨ (p1 = true ∧ p2 = true ∧ p3 = false) := by cases p1 <;> cases p2 <;> cases p3 <;> simp at hf ⊢
  clear hf
  rcases ht with rfl | ⟨rfl, rfl⟩ | ⟨rfl, rfl, rfl⟩
  all_goals
    go_enter Try.func12, Try.ntmps12
    go_wp2_with (first
      | (go_at_call 26; (with_reducible refine (in_b H1 _).mono ?_); rintro e x1 ⟨rfl, f1⟩; have hB := hB.frm f1 (fun e => e); have hF := hF.trans f1 (fun _ _ e => e); obtain ⟨_, _, _, _, _, _, _⟩ := lk_cells hB)
      | (go_at_call 26; (with_reducible refine (in_b H2 _).mono ?_); rintro e x1 ⟨rfl, f1⟩; have hB := hB.frm f1 (fun e => e); have hF := hF.trans f1 (fun _ _ e => e); obtain ⟨_, _, _, _, _, _, _⟩ := lk_cells hB)
      | (go_at_call 26; (with_reducible refine (in_b H3 _).mono ?_); rintro e x1 ⟨rfl, f1⟩; have hB := hB.frm f1 (fun e => e); have hF := hF.trans f1 (fun _ _ e => e); obtain ⟨_, _, _, _, _, _, _⟩ := lk_cells hB))
    go_ret
    exact ⟨rfl, hF⟩

theorem hid_ok {hi x : Int} (h : 0 ≤ x ∧ x ≤ hi) : okr hi x = true := okr_iff.2 h

end Go.Proofs.Ytchmaecakjeceaa
