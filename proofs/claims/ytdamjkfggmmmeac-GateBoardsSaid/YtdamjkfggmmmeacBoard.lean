/- What a board's methods (chapter 24) do to memory. -/
import Derived.Test.YtdamjkfggmmmeacLatch
namespace Go.Proofs.Ytdamjkfggmmmeac.Board
open Go.RowKit Go.Proofs.YtdamjkfggmmmeacW.PrintWords Go.Proofs.YtdamjkfggmmmeacW.PrintLast Go.Proofs.YtdamjkfggmmmeacW.PrintMore Go.Proofs.Ytdamjkfggmmmeac.Once Go.Proofs.Ytdamjkfggmmmeac.Latch
set_option linter.unusedVariables false
set_option linter.unusedSimpArgs false

/-- A board's fifteen cells. -/
def boardCells (s : List (Option Int)) : List Value := s.flatMap latchCells
theorem len5 (o : Option Int) : (latchCells o).length = 5 := by cases o <;> rfl
theorem cells_at : ∀ (s : List (Option Int)) (i j : Nat) (o : Option Int), s[i]? = some o → j < 5 → (boardCells s)[i * 5 + j]? = (latchCells o)[j]?
  | [], i, j, o, h, _ => by simp at h
  | x :: s, 0, j, o, h, hj => by
    have : x = o := by simpa using h
    subst this
    rw [show boardCells (x :: s) = latchCells x ++ boardCells s by simp [boardCells]]
    rw [List.getElem?_append_left (by rw [len5]; omega)]; simp
  | x :: s, i + 1, j, o, h, hj => by
    rw [show boardCells (x :: s) = latchCells x ++ boardCells s by simp [boardCells]]
    rw [List.getElem?_append_right (by rw [len5]; omega), len5, show (i + 1) * 5 + j - 5 = i * 5 + j by omega]
    exact cells_at s i j o (by simpa using h) hj
theorem opened_at (s : List (Option Int)) (i : Nat) (v : Int) (h : s[i]? = some none) : opened (boardCells s).toArray (i * 5) v = (boardCells (s.set i (some v))).toArray := by
  apply Array.ext'
  simp only [opened, List.setIfInBounds_toArray]
  induction s generalizing i with
  | nil => simp at h
  | cons x s ih =>
    cases i with
    | zero =>
      have : x = none := by simpa using h
      subst this
      simp [boardCells, latchCells]
    | succ i =>
      have := ih i (by simpa using h)
      have e5 : ∀ y s, boardCells (y :: s) = latchCells y ++ boardCells s := fun y s => by simp [boardCells]
      rw [List.set_cons_succ, e5, e5, ← this]
      have q : ∀ (l : List Value) (k : Nat) (u : Value), (latchCells x ++ l).set ((i + 1) * 5 + k) u = latchCells x ++ l.set (i * 5 + k) u := fun l k u => by
        rw [List.set_append_right _ _ (by rw [len5]; omega), len5, show (i + 1) * 5 + k - 5 = i * 5 + k by omega]
      have q0 : ∀ (l : List Value) (u : Value), (latchCells x ++ l).set ((i + 1) * 5) u = latchCells x ++ l.set (i * 5) u := fun l u => q l 0 u
      simp only [q, q0]

theorem cell_of {b : Nat} {s : List (Option Int)} {T : TypeId} {w : World} (hb : w.heap[b]? = some (.cells (boardCells s).toArray T (0, 0))) {i : Nat} {o : Option Int} (ho : s[i]? = some o) (j : Nat) (hj : j < 5) : w.cell? ⟨b, i * 5 + j, none⟩ = (latchCells o)[j]? := by
  refine (blk_cell hb _).trans ?_
  rw [List.getElem?_toArray]
  exact cells_at s i j o ho hj

/-- What opening the latch at place i answers, and the board behind it. -/
def openF (s : List (Option Int)) (i a : Int) : Option (Bool × List (Option Int)) :=
  match s[i.toNat]? with
  | some none => some (true, s.set i.toNat (some a))
  | some (some _) => some (false, s)
  | none => none
def atF (s : List (Option Int)) (i : Int) : Option (Int × Bool × List (Option Int)) :=
  match s[i.toNat]? with
  | some none => some (0, false, s)
  | some (some v) => some (v, true, s)
  | none => none

set_option maxRecDepth 100000 in
theorem new_board (w : World) :
    Calls Try.prog 22 #[] w fun e w' => e = .returned (.pointer (some ⟨w.heap.size, 0, none⟩)) ∧ w.alloc (.cells (boardCells (List.replicate 3 none)).toArray 91) = w' := by
  go_enter Try.func22, Try.ntmps22
  go_wp2
  go_ret
  exact ⟨rfl, rfl⟩

end Go.Proofs.Ytdamjkfggmmmeac.Board
