/- What the methods of a tally (chapter 27) that touch its cells do to memory. -/
import Derived.Test.YtdamjkfggmmmeaaProg
import Derived.Test.YtdamjkfggmmmeaaWMore
import Derived.WalkKit
import Derived.Laws.LoneSync
import Derived.Laws.NewBlocks
import Derived.Lib.Hide
namespace Go.Proofs.Ytdamjkfggmmmeaa.Tally
open Go.RowKit Go.Proofs.YtdamjkfggmmmeaaW.PrintWords Go.Proofs.YtdamjkfggmmmeaaW.PrintLast Go.Proofs.YtdamjkfggmmmeaaW.PrintMore
set_option linter.unusedVariables false
set_option linter.unusedSimpArgs false

def cellsOf (l : List Int) : List Value := l.map (Value.int .i64)

theorem cell_of {b : Nat} {l : List Int} {T : TypeId} {w : World} (hb : w.heap[b]? = some (.cells (cellsOf l).toArray T (0, 0))) {i : Nat} {x : Int} (hx : l[i]? = some x) : w.cell? ⟨b, i, none⟩ = some (.int .i64 x) := by
  refine (blk_cell hb i).trans ?_
  simp [cellsOf, hx]

theorem add_at (a : Addr) (x : Int) (w : World) (hc : w.cell? a = some (.int .i64 x)) (hz : w.frozen? a = false) (h0 : 0 ≤ x) (h1 : x < 4611686018427387904) :
    Calls Try.prog 51 #[.pointer (some a), .int .i64 1] w fun e w' => e = .returned (.int .i64 (x + 1)) ∧ w.setCell a (.int .i64 (x + 1)) = w' := by
  have hadd := run_call_add (P := Try.prog) Try.func60 (by kernel_rfl) (by kernel_rfl) (by kernel_rfl) .i64 (by kernel_rfl) (y := 1) (s := x + 1) hc hz (by simp [go_sem, IntKind.wrap]; omega)
  go_enter Try.func51, Try.ntmps51
  go_wp2
  go_ret
  exact ⟨rfl, rfl⟩

theorem load_at (a : Addr) (x : Int) (w : World) (hc : w.cell? a = some (.int .i64 x)) :
    Calls Try.prog 52 #[.pointer (some a)] w fun e w' => e = .returned (.int .i64 x) ∧ w = w' := by
  have hl := run_call_load (P := Try.prog) Try.func61 (by kernel_rfl) (by kernel_rfl) (by kernel_rfl) .i64 (by kernel_rfl) hc
  go_enter Try.func52, Try.ntmps52
  go_wp2
  go_ret
  exact ⟨rfl, rfl⟩

theorem has_is (e : Int) (w : World) : Calls Try.prog 50 #[.int .i64 e] w fun r w' => r = .returned (.bool (decide (1 ≤ e ∧ e ≤ 31))) ∧ w = w' := by
  by_cases h1 : 1 ≤ e <;> by_cases h2 : e ≤ 31
  all_goals
    go_enter Try.func50, Try.ntmps50
    go_wp2
    go_ret
    simp_all

set_option maxRecDepth 100000 in
theorem new_tally (w : World) :
    Calls Try.prog 13 #[] w fun e w' => e = .returned (.pointer (some ⟨w.heap.size, 0, none⟩)) ∧ w.alloc (.cells (cellsOf (List.replicate 32 0)).toArray 93) = w' := by
  go_enter Try.func13, Try.ntmps13
  go_wp2
  go_ret
  exact ⟨rfl, rfl⟩

theorem bad_e {e : Int} (h : ¬ (1 ≤ e ∧ e ≤ 31)) (w : World) : Calls Try.prog 50 #[.int .i64 e] w fun r w' => r = .returned (.bool false) ∧ w = w' := by
  refine (has_is e w).mono ?_; rintro r w' ⟨rfl, rfl⟩; exact ⟨by simp [h], rfl⟩
theorem good_e {e : Int} (h : 1 ≤ e ∧ e ≤ 31) (w : World) : Calls Try.prog 50 #[.int .i64 e] w fun r w' => r = .returned (.bool true) ∧ w = w' := by
  refine (has_is e w).mono ?_; rintro r w' ⟨rfl, rfl⟩; exact ⟨by simp [h], rfl⟩

set_option maxRecDepth 100000 in
theorem add_out (b : Nat) (e : Int) (w : World) (h : ¬ (1 ≤ e ∧ e ≤ 31)) :
    Calls Try.prog 14 #[.pointer (some ⟨b, 0, none⟩), .int .i64 e] w fun r w' => r = .returned (.bool false) ∧ w = w' := by
  have hnot : ∀ (x : Bool) (w : World), (Op.unary .not (.bool x)).run Try.prog w = .ok (.bool (!x)) w := fun _ _ => rfl
  go_enter Try.func14, Try.ntmps14
  go_wp2_with (first | (go_at_call 50; refine (bad_e h _).mono ?_; rintro r w' ⟨rfl, rfl⟩))
  go_ret
  exact ⟨rfl, rfl⟩

set_option maxRecDepth 100000 in
theorem add_in (b i : Nat) (e x : Int) (w : World) (h : 1 ≤ e ∧ e ≤ 31) (hi : e = (i : Int)) (hc : w.cell? ⟨b, i, none⟩ = some (.int .i64 x)) (hz : w.frozen? ⟨b, i, none⟩ = false) (h0 : 0 ≤ x) (h1 : x < 4611686018427387904) :
    Calls Try.prog 14 #[.pointer (some ⟨b, 0, none⟩), .int .i64 e] w fun r w' => r = .returned (.bool true) ∧ w.setCell ⟨b, i, none⟩ (.int .i64 (x + 1)) = w' := by
  have hnot : ∀ (x : Bool) (w : World), (Op.unary .not (.bool x)).run Try.prog w = .ok (.bool (!x)) w := fun _ _ => rfl
  subst hi
  go_enter Try.func14, Try.ntmps14
  go_wp2_with (first | (go_at_call 50; refine (good_e h _).mono ?_; rintro r w' ⟨rfl, rfl⟩) | (go_at_call 51; refine (add_at ⟨b, i, none⟩ x _ (by go_simp) (by go_simp) h0 h1).mono ?_; rintro r w' ⟨rfl, rfl⟩))
  go_ret
  exact ⟨rfl, rfl⟩

set_option maxRecDepth 100000 in
theorem get_out (b : Nat) (e : Int) (w : World) (h : ¬ (1 ≤ e ∧ e ≤ 31)) :
    Calls Try.prog 17 #[.pointer (some ⟨b, 0, none⟩), .int .i64 e] w fun r w' => r = .returned (.int .i64 0) ∧ w = w' := by
  have hnot : ∀ (x : Bool) (w : World), (Op.unary .not (.bool x)).run Try.prog w = .ok (.bool (!x)) w := fun _ _ => rfl
  go_enter Try.func17, Try.ntmps17
  go_wp2_with (first | (go_at_call 50; refine (bad_e h _).mono ?_; rintro r w' ⟨rfl, rfl⟩))
  go_ret
  exact ⟨rfl, rfl⟩

set_option maxRecDepth 100000 in
theorem get_in (b i : Nat) (e x : Int) (w : World) (h : 1 ≤ e ∧ e ≤ 31) (hi : e = (i : Int)) (hc : w.cell? ⟨b, i, none⟩ = some (.int .i64 x)) :
    Calls Try.prog 17 #[.pointer (some ⟨b, 0, none⟩), .int .i64 e] w fun r w' => r = .returned (.int .i64 x) ∧ w = w' := by
  have hnot : ∀ (x : Bool) (w : World), (Op.unary .not (.bool x)).run Try.prog w = .ok (.bool (!x)) w := fun _ _ => rfl
  subst hi
  go_enter Try.func17, Try.ntmps17
  go_wp2_with (first | (go_at_call 50; refine (good_e h _).mono ?_; rintro r w' ⟨rfl, rfl⟩) | (go_at_call 52; refine (load_at ⟨b, i, none⟩ x _ (by go_simp)).mono ?_; rintro r w' ⟨rfl, rfl⟩))
  go_ret
  exact ⟨rfl, rfl⟩
end Go.Proofs.Ytdamjkfggmmmeaa.Tally
