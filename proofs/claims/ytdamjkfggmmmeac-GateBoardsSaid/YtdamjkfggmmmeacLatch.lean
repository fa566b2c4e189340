/- What a latch's methods (chapter 24) do to memory. -/
import Derived.Test.YtdamjkfggmmmeacOnce
import Derived.Laws.NewBlocks
import Derived.Lib.Hide
namespace Go.Proofs.Ytdamjkfggmmmeac.Latch
open Go.RowKit Go.Proofs.YtdamjkfggmmmeacW.PrintWords Go.Proofs.YtdamjkfggmmmeacW.PrintLast Go.Proofs.YtdamjkfggmmmeacW.PrintMore Go.Proofs.Ytdamjkfggmmmeac.Once
set_option linter.unusedVariables false
set_option linter.unusedSimpArgs false

set_option maxRecDepth 100000 in
theorem store_at (b o : Nat) (x : Value) (v : Int) (w : World) (hc : w.cell? ⟨b, o, none⟩ = some x) (hz : w.frozen? ⟨b, o, none⟩ = false) :
    Calls Try.prog 33 #[.pointer (some ⟨b, o, none⟩), .int .i64 v] w fun e w' => e = .returned (.tuple #[]) ∧ w.setCell ⟨b, o, none⟩ (.int .i64 v) = w' := by
  have hst := run_call_store (P := Try.prog) Try.func47 (by kernel_rfl) (by kernel_rfl) (by kernel_rfl) (by kernel_rfl) (k := .i64) (y := v) hc hz
  go_enter Try.func33, Try.ntmps33
  go_wp2
  go_end0
  exact ⟨rfl, rfl⟩

/-- In block b two cells have been written, in another one its first; nothing else. -/
structure Wrote (b off : Nat) (v : Int) (f : Nat) (w w' : World) : Prop where
  os : w'.os = w.os
  tape : w'.tape = w.tape
  output : w'.output = w.output
  heap : w'.heap = (((w.setCell ⟨b, off + 4, none⟩ (.int .i64 v)).setCell ⟨b, off + 3, none⟩ (.int .u32 1)).setCell ⟨f, 0, none⟩ (.bool true)).heap

set_option maxRecDepth 100000 in
set_option maxHeartbeats 1600000 in
theorem closure_any (b off f : Nat) (pl pa : Addr) (v : Int) (x y : Value) (w : World)
    (hpl : w.cell? pl = some (.pointer (some ⟨b, off, none⟩))) (hpa : w.cell? pa = some (.int .i64 v)) (hpf : w.cell? ⟨f, 0, none⟩ = some (.bool false)) (zf : w.frozen? ⟨f, 0, none⟩ = false)
    (h3 : w.cell? ⟨b, off + 3, none⟩ = some x) (h4 : w.cell? ⟨b, off + 4, none⟩ = some y) (z3 : w.frozen? ⟨b, off + 3, none⟩ = false) (z4 : w.frozen? ⟨b, off + 4, none⟩ = false)
    (n1 : ¬ b = pl.block) (n2 : ¬ b = f) :
    Calls Try.prog 32 #[.pointer (some pl), .pointer (some pa), .pointer (some ⟨f, 0, none⟩)] w fun e w' => e = .returned (.tuple #[]) ∧ Wrote b off v f w w' := by
  have hp1 : (w.setCell ⟨b, off + 4, none⟩ (.int .i64 v)).cell? pl = some (.pointer (some ⟨b, off, none⟩)) := (World.cell?_setCell_other _ ⟨b, off + 4, none⟩ pl _ (fun h => n1 (by rw [← h]))).trans hpl
  have hf1 : ((w.setCell ⟨b, off + 4, none⟩ (.int .i64 v)).setCell ⟨b, off + 3, none⟩ (.int .u32 1)).cell? ⟨f, 0, none⟩ = some (.bool false) :=
    (World.cell?_setCell_other _ ⟨b, off + 3, none⟩ ⟨f, 0, none⟩ _ (by simp [n2])).trans ((World.cell?_setCell_other _ ⟨b, off + 4, none⟩ ⟨f, 0, none⟩ _ (by simp [n2])).trans hpf)
  have h31 : (w.setCell ⟨b, off + 4, none⟩ (.int .i64 v)).cell? ⟨b, off + 3, none⟩ = some x := (World.cell?_setCell_other _ ⟨b, off + 4, none⟩ ⟨b, off + 3, none⟩ _ (by simp)).trans h3
  go_enter Try.func32, Try.ntmps32
  go_wp2
  go_region_with (go_at_call 33; refine (store_at b (off + 4) y v _ (by go_simp) (by go_simp)).mono ?_; rintro e w' ⟨rfl, rfl⟩)
  go_wp2_with (go_at_call 34; refine (store_bool ⟨b, off + 3, none⟩ x _ (by go_simp) (by go_simp)).mono ?_; rintro e w' ⟨rfl, rfl⟩)
  all_goals (go_end0; exact ⟨rfl, rfl, rfl, rfl, rfl⟩)
theorem setCell_heap {w w' : World} {a : Addr} {u : Value} (h : w.heap = w'.heap) : (w.setCell a u).heap = (w'.setCell a u).heap := by simp [World.setCell, h]
theorem cell_of_heap {w w' : World} (h : w'.heap = w.heap) (a : Addr) : w'.cell? a = w.cell? a := by unfold World.cell?; rw [h]
theorem frozen_of_heap {w w' : World} (h : w'.heap = w.heap) (a : Addr) : w'.frozen? a = w.frozen? a := by unfold World.frozen?; rw [h]

/-- The same, and the Once's own words. -/
structure Wrote2 (b off : Nat) (v : Int) (f : Nat) (w w' : World) : Prop where
  os : w'.os = w.os
  tape : w'.tape = w.tape
  output : w'.output = w.output
  heap : w'.heap = ((((((w.setCell ⟨b, off + 1, none⟩ (.int .i32 1)).setCell ⟨b, off + 4, none⟩ (.int .i64 v)).setCell ⟨b, off + 3, none⟩ (.int .u32 1)).setCell ⟨f, 0, none⟩ (.bool true)).setCell ⟨b, off, none⟩ (.int .u32 1)).setCell ⟨b, off + 1, none⟩ (.int .i32 0)).heap

set_option maxRecDepth 100000 in
set_option maxHeartbeats 1600000 in
theorem slow_any (b off f : Nat) (pl pa : Addr) (v : Int) (x y : Value) (w : World)
    (hpl : w.cell? pl = some (.pointer (some ⟨b, off, none⟩))) (hpa : w.cell? pa = some (.int .i64 v)) (hpf : w.cell? ⟨f, 0, none⟩ = some (.bool false)) (zf : w.frozen? ⟨f, 0, none⟩ = false)
    (h0 : w.cell? ⟨b, off, none⟩ = some (.int .u32 0)) (h1 : w.cell? ⟨b, off + 1, none⟩ = some (.int .i32 0))
    (h3 : w.cell? ⟨b, off + 3, none⟩ = some x) (h4 : w.cell? ⟨b, off + 4, none⟩ = some y)
    (z : ∀ j, w.frozen? ⟨b, j, none⟩ = false) (n1 : ¬ b = pl.block) (n3 : ¬ b = pa.block) (n2 : ¬ b = f) :
    Calls Try.prog 46 #[.pointer (some ⟨b, off, none⟩), .func (.func 32) #[] #[.pointer (some pl), .pointer (some pa), .pointer (some ⟨f, 0, none⟩)]] w fun e w' => e = .returned (.tuple #[]) ∧ Wrote2 b off v f w w' := by
  have ne1 : ∀ (a : Addr) (u : Value), ¬ b = a.block → (w.setCell ⟨b, off + 1, none⟩ u).cell? a = w.cell? a := fun a u h => World.cell?_setCell_other _ ⟨b, off + 1, none⟩ a _ (fun e => h (by rw [← e]))
  have cl := closure_any b off f pl pa v x y (w.setCell ⟨b, off + 1, none⟩ (.int .i32 1)) ((ne1 _ _ n1).trans hpl) ((ne1 _ _ n3).trans hpa) ((ne1 _ _ n2).trans hpf) (by simp [zf])
    ((World.cell?_setCell_other _ ⟨b, off + 1, none⟩ ⟨b, off + 3, none⟩ _ (by simp)).trans h3) ((World.cell?_setCell_other _ ⟨b, off + 1, none⟩ ⟨b, off + 4, none⟩ _ (by simp)).trans h4) (by simp [z]) (by simp [z]) n1 n2
  have HC := Lib.hid cl
  clear cl
  have h01 : (w.setCell ⟨b, off + 1, none⟩ (.int .i32 1)).cell? ⟨b, off, none⟩ = some (.int .u32 0) := (World.cell?_setCell_other _ ⟨b, off + 1, none⟩ ⟨b, off, none⟩ _ (by simp)).trans h0
  have hnot : ∀ (x : Bool) (w : World), (Op.unary .not (.bool x)).run Try.prog w = .ok (.bool (!x)) w := fun _ _ => rfl
  go_enter_defers Try.func46, Try.ntmps46
  go_wp2_with (first | (go_at_call 52; refine (lock_free ⟨b, off + 1, none⟩ _ (by go_simp) (by go_simp)).mono ?_; rintro e w' ⟨rfl, rfl⟩) | (go_at_call 29; refine (load_bool ⟨b, off, none⟩ 0 false rfl _ (by go_simp)).mono ?_; rintro e w' ⟨rfl, rfl⟩))
  refine HC.out.mono ?_
  rintro e w2 ⟨rfl, hw⟩
  have hn : (⟨b, off, none⟩ : Addr) ≠ ⟨f, 0, none⟩ := by simp [n2]
  have hn1 : (⟨b, off + 1, none⟩ : Addr) ≠ ⟨f, 0, none⟩ := by simp [n2]
  have c0 : w2.cell? ⟨b, off, none⟩ = some (.int .u32 0) := by
    rw [cell_of_heap hw.heap, World.cell?_setCell_other _ _ _ _ hn.symm, World.cell?_setCell_other _ _ _ _ (by simp), World.cell?_setCell_other _ _ _ _ (by simp)]
    exact h01
  have c1 : w2.cell? ⟨b, off + 1, none⟩ = some (.int .i32 1) := by
    rw [cell_of_heap hw.heap, World.cell?_setCell_other _ _ _ _ hn1.symm, World.cell?_setCell_other _ _ _ _ (by simp), World.cell?_setCell_other _ _ _ _ (by simp)]
    exact World.cell?_setCell_same w _ _ h1
  have z0 : ∀ j, w2.frozen? ⟨b, j, none⟩ = false := fun j => by rw [frozen_of_heap hw.heap]; simp [z]
  have HW := Lib.hid hw
  clear hw
  go_wp2
  refine leaves_cons (f := 34) (args := #[.pointer (some ⟨b, off, none⟩), .bool true]) (by simp) (by simp [go_sem]) ?_
  refine (store_deferred ⟨b, off, none⟩ (.int .u32 0) .returning _ c0 (z0 _)).mono ?_
  rintro e u' w'' ⟨rfl, rfl, rfl⟩
  refine leaves_cons (f := 53) (args := #[.pointer (some ⟨b, off + 1, none⟩)]) (by simp [settle]) (by simp [go_sem]) ?_
  refine (unlock_deferred ⟨b, off + 1, none⟩ _ _ ?_ (by simp [z0])).mono ?_
  · refine (World.cell?_setCell_other _ ⟨b, off, none⟩ ⟨b, off + 1, none⟩ _ (by simp)).trans ?_
    rw [World.cell?_drew]; exact c1
  rintro e u' w'' ⟨rfl, rfl, rfl⟩
  have hw := HW.out
  simp [Leaves, settle, results, Try.results46]
  exact ⟨hw.os, hw.tape, hw.output, setCell_heap (setCell_heap hw.heap)⟩

set_option maxRecDepth 100000 in
set_option maxHeartbeats 1600000 in
/-- '(*sync.Once).Do', not yet done, the lock free. -/
theorem do_first (b off f : Nat) (pl pa : Addr) (v : Int) (x y : Value) (w : World)
    (hpl : w.cell? pl = some (.pointer (some ⟨b, off, none⟩))) (hpa : w.cell? pa = some (.int .i64 v)) (hpf : w.cell? ⟨f, 0, none⟩ = some (.bool false)) (zf : w.frozen? ⟨f, 0, none⟩ = false)
    (h0 : w.cell? ⟨b, off, none⟩ = some (.int .u32 0)) (h1 : w.cell? ⟨b, off + 1, none⟩ = some (.int .i32 0))
    (h3 : w.cell? ⟨b, off + 3, none⟩ = some x) (h4 : w.cell? ⟨b, off + 4, none⟩ = some y)
    (z : ∀ j, w.frozen? ⟨b, j, none⟩ = false) (n1 : ¬ b = pl.block) (n3 : ¬ b = pa.block) (n2 : ¬ b = f) :
    Calls Try.prog 31 #[.pointer (some ⟨b, off, none⟩), .func (.func 32) #[] #[.pointer (some pl), .pointer (some pa), .pointer (some ⟨f, 0, none⟩)]] w fun e w' => e = .returned (.tuple #[]) ∧ Wrote2 b off v f w w' := by
  have hnot : ∀ (x : Bool) (w : World), (Op.unary .not (.bool x)).run Try.prog w = .ok (.bool (!x)) w := fun _ _ => rfl
  have HC := Lib.hid (slow_any b off f pl pa v x y w hpl hpa hpf zf h0 h1 h3 h4 z n1 n3 n2)
  go_enter Try.func31, Try.ntmps31
  go_wp2_with (first | (go_at_call 29; refine (load_bool ⟨b, off, none⟩ 0 false rfl _ (by go_simp)).mono ?_; rintro e w' ⟨rfl, rfl⟩))
  refine HC.out.mono ?_
  rintro e w2 ⟨rfl, hw⟩
  go_wp2
  go_end0
  exact ⟨rfl, hw⟩

set_option maxRecDepth 100000 in
/-- '(*sync.Once).Do', done already: the function is not called. -/
theorem do_done (b off : Nat) (fv : Value) (w : World) (h0 : w.cell? ⟨b, off, none⟩ = some (.int .u32 1)) :
    Calls Try.prog 31 #[.pointer (some ⟨b, off, none⟩), fv] w fun e w' => e = .returned (.tuple #[]) ∧ w = w' := by
  have hnot : ∀ (x : Bool) (w : World), (Op.unary .not (.bool x)).run Try.prog w = .ok (.bool (!x)) w := fun _ _ => rfl
  go_enter Try.func31, Try.ntmps31
  go_wp2_with (first | (go_at_call 29; refine (load_bool ⟨b, off, none⟩ 1 true rfl _ (by go_simp)).mono ?_; rintro e w' ⟨rfl, rfl⟩))
  go_end0
  exact ⟨rfl, rfl⟩

/-- A latch's five cells. -/
def latchCells : Option Int → List Value
  | none => [.int .u32 0, .int .i32 0, .int .u32 0, .int .u32 0, .int .i64 0]
  | some v => [.int .u32 1, .int .i32 0, .int .u32 0, .int .u32 1, .int .i64 v]
/-- The cells of a block, a latch at 'off' among them, behind its opening. -/
def opened (cs : Array Value) (off : Nat) (v : Int) : Array Value :=
  ((((cs.setIfInBounds (off + 1) (.int .i32 1)).setIfInBounds (off + 4) (.int .i64 v)).setIfInBounds (off + 3) (.int .u32 1)).setIfInBounds off (.int .u32 1)).setIfInBounds (off + 1) (.int .i32 0)

set_option maxRecDepth 100000 in
set_option maxHeartbeats 1600000 in
theorem open_first (b off : Nat) (cs : Array Value) (T : TypeId) (v : Int) (w : World) (hb : w.heap[b]? = some (.cells cs T (0, 0)))
    (h0 : cs[off]? = some (.int .u32 0)) (h1 : cs[off + 1]? = some (.int .i32 0)) (h3 : cs[off + 3]? = some (.int .u32 0)) (h4 : cs[off + 4]? = some (.int .i64 0)) :
    Calls Try.prog 19 #[.pointer (some ⟨b, off, none⟩), .int .i64 v] w fun e w' => e = .returned (.bool true) ∧ w'.heap[b]? = some (.cells (opened cs off v) T (0, 0)) ∧ (∀ B, B ≤ b → B ≤ w.heap.size → Below B w w') ∧ KeepBut w w' b none := by
  have hlt : b < w.heap.size := blk_lt hb
  have c0 : w.cell? ⟨b, off, none⟩ = some (.int .u32 0) := (blk_cell hb off).trans h0
  have c1 : w.cell? ⟨b, off + 1, none⟩ = some (.int .i32 0) := (blk_cell hb _).trans h1
  have c3 : w.cell? ⟨b, off + 3, none⟩ = some (.int .u32 0) := (blk_cell hb _).trans h3
  have c4 : w.cell? ⟨b, off + 4, none⟩ = some (.int .i64 0) := (blk_cell hb _).trans h4
  have hmf : ∀ (fn : Fn) (first cap : Array Value) (w : World), (Instr.makeFunc fn first cap).run Try.prog w = .ok (.func fn first cap) w := fun _ _ _ _ => rfl
  obtain ⟨W, hW⟩ : ∃ W, W = (((w.alloc (.cells #[.pointer (some ⟨b, off, none⟩)] 37)).alloc (.cells #[.int .i64 v] 3)).alloc (.cells #[.bool false] 4)) := ⟨_, rfl⟩
  have hWb : W.heap[b]? = some (.cells cs T (0, 0)) := by rw [hW]; exact blk_alloc (blk_alloc (blk_alloc hb _) _) _
  have hWz : W.heap.size = w.heap.size + 1 + 1 + 1 := by rw [hW]; simp
  have b1 : W.heap[w.heap.size]? = some (.cells #[.pointer (some ⟨b, off, none⟩)] 37 (0, 0)) := by rw [hW]; exact blk_alloc (blk_alloc (heap_alloc_new w _) _) _
  have b2 : W.heap[w.heap.size + 1]? = some (.cells #[.int .i64 v] 3 (0, 0)) := by
    rw [hW]; have := blk_alloc (heap_alloc_new (w.alloc (.cells #[.pointer (some ⟨b, off, none⟩)] 37)) (.cells #[.int .i64 v] 3)) (.cells #[.bool false] 4); simpa using this
  have b3 : W.heap[w.heap.size + 1 + 1]? = some (.cells #[.bool false] 4 (0, 0)) := by
    rw [hW]; have := heap_alloc_new ((w.alloc (.cells #[.pointer (some ⟨b, off, none⟩)] 37)).alloc (.cells #[.int .i64 v] 3)) (.cells #[.bool false] 4); simpa using this
  have bp := (blk_cell b1 0).trans rfl
  have ba := (blk_cell b2 0).trans rfl
  have bf := (blk_cell b3 0).trans rfl
  have zf := blk_frozen b3 0
  have HC := Lib.hid (do_first b off (w.heap.size + 1 + 1) ⟨w.heap.size, 0, none⟩ ⟨w.heap.size + 1, 0, none⟩ v _ _ W bp ba bf zf ((blk_cell hWb off).trans h0) ((blk_cell hWb _).trans h1) ((blk_cell hWb _).trans h3) ((blk_cell hWb _).trans h4) (fun j => blk_frozen hWb j) (by simp; omega) (by simp; omega) (by omega))
  have kW : KeepBut w W b none := by rw [hW]; exact keep_alloc (keep_alloc (keep_alloc (KeepBut.refl _ _ _) _) _) _
  have lW : ∀ B, B ≤ w.heap.size → Below B w W := fun B hB => by rw [hW]; exact (((Below.refl _ _).alloc hB _).alloc (by simp; omega) _).alloc (by simp; omega) _
  clear bp ba bf zf b1 b2
  have B3 := Lib.hid b3
  clear b3
  have HW := Lib.hid hW
  clear hW
  go_enter Try.func19, Try.ntmps19
  go_wp2_with fail
  rw [← HW.out]
  refine HC.out.mono ?_
  rintro e w2 ⟨rfl, hw⟩
  have g1 : w2.heap[b]? = some (.cells (opened cs off v) T (0, 0)) := by
    rw [hw.heap]
    exact blk_set (blk_set (blk_far (blk_set (blk_set (blk_set hWb _ _) _ _) _ _) (by simp; omega) _) _ _) _ _
  have kw : KeepBut w w2 b none := by
    have k2 : KeepBut w ((((((W.setCell ⟨b, off + 1, none⟩ (.int .i32 1)).setCell ⟨b, off + 4, none⟩ (.int .i64 v)).setCell ⟨b, off + 3, none⟩ (.int .u32 1)).setCell ⟨w.heap.size + 1 + 1, 0, none⟩ (.bool true)).setCell ⟨b, off, none⟩ (.int .u32 1)).setCell ⟨b, off + 1, none⟩ (.int .i32 0)) b none :=
      (((keep_far (((kW.set_ _ _).set_ _ _).set_ _ _) (p := ⟨w.heap.size + 1 + 1, 0, none⟩) (by simp; omega) _).set_ _ _).set_ _ _)
    exact ⟨by rw [hw.heap]; exact k2.1, fun i a c d => by rw [hw.heap]; exact k2.2 i a c d⟩
  have lw : ∀ B, B ≤ b → B ≤ w.heap.size → Below B w w2 := fun B h1 h2 => by
    have l0 := lW B h2
    have l1 : Below B w ((((((W.setCell ⟨b, off + 1, none⟩ (.int .i32 1)).setCell ⟨b, off + 4, none⟩ (.int .i64 v)).setCell ⟨b, off + 3, none⟩ (.int .u32 1)).setCell ⟨w.heap.size + 1 + 1, 0, none⟩ (.bool true)).setCell ⟨b, off, none⟩ (.int .u32 1)).setCell ⟨b, off + 1, none⟩ (.int .i32 0)) :=
      (((((l0.setCell (p := ⟨b, off + 1, none⟩) h1 _).setCell (p := ⟨b, off + 4, none⟩) h1 _).setCell (p := ⟨b, off + 3, none⟩) h1 _).setCell (p := ⟨w.heap.size + 1 + 1, 0, none⟩) (by simp; omega) _).setCell (p := ⟨b, off, none⟩) h1 _).setCell (p := ⟨b, off + 1, none⟩) h1 _
    exact ⟨hw.os.trans l0.os, hw.tape.trans l0.tape, hw.output.trans l0.output, by rw [hw.heap]; exact l1.size, fun k hk => by rw [hw.heap]; exact l1.block k hk⟩
  have cf : w2.cell? ⟨w.heap.size + 1 + 1, 0, none⟩ = some (.bool true) := by
    have : w2.heap[w.heap.size + 1 + 1]? = some (.cells #[.bool true] 4 (0, 0)) := by
      rw [hw.heap]
      exact blk_far (blk_far (blk_set (blk_far (blk_far (blk_far B3.out (by simp; omega) _) (by simp; omega) _) (by simp; omega) _) 0 (.bool true)) (by simp; omega) _) (by simp; omega) _
    exact (blk_cell this 0)
  have HG := Lib.hid (And.intro g1 (And.intro lw kw))
  clear g1 kw lw hw HC
  go_wp2
  go_ret
  exact ⟨rfl, HG.out.1, HG.out.2.1, HG.out.2.2⟩

set_option maxRecDepth 100000 in
set_option maxHeartbeats 1600000 in
theorem open_again (b off : Nat) (v : Int) (w : World) (hlt : b < w.heap.size) (c0 : w.cell? ⟨b, off, none⟩ = some (.int .u32 1)) :
    Calls Try.prog 19 #[.pointer (some ⟨b, off, none⟩), .int .i64 v] w fun e w' => e = .returned (.bool false) ∧ (∀ B, B ≤ w.heap.size → Below B w w') := by
  have hmf : ∀ (fn : Fn) (first cap : Array Value) (w : World), (Instr.makeFunc fn first cap).run Try.prog w = .ok (.func fn first cap) w := fun _ _ _ _ => rfl
  have c0' : ∀ o1 o2 o3, (((w.alloc o1).alloc o2).alloc o3).cell? ⟨b, off, none⟩ = some (.int .u32 1) := fun o1 o2 o3 => by
    rw [World.cell?_alloc_past _ _ _ (by simp; omega), World.cell?_alloc_past _ _ _ (by simp; omega), World.cell?_alloc_past _ _ _ hlt]; exact c0
  have hl : ∀ o1 o2 o3 B, B ≤ w.heap.size → Below B w (((w.alloc o1).alloc o2).alloc o3) := fun o1 o2 o3 B hB => (((Below.refl _ _).alloc hB _).alloc (by simp; omega) _).alloc (by simp; omega) _
  go_enter Try.func19, Try.ntmps19
  go_wp2_with fail
  refine (do_done b off _ _ (c0' _ _ _)).mono ?_
  rintro e w' ⟨rfl, rfl⟩
  have b3 : (((w.alloc (.cells #[.pointer (some ⟨b, off, none⟩)] 37)).alloc (.cells #[.int .i64 v] 3)).alloc (.cells #[.bool false] 4)).cell? ⟨w.heap.size + 1 + 1, 0, none⟩ = some (.bool false) := by
    have := blk_cell (heap_alloc_new ((w.alloc (.cells #[.pointer (some ⟨b, off, none⟩)] 37)).alloc (.cells #[.int .i64 v] 3)) (.cells #[.bool false] 4)) 0
    simpa using this
  go_wp2
  go_ret
  exact ⟨rfl, hl _ _ _⟩

theorem load_at (a : Addr) (x : Int) (w : World) (hc : w.cell? a = some (.int .i64 x)) :
    Calls Try.prog 30 #[.pointer (some a)] w fun e w' => e = .returned (.int .i64 x) ∧ w = w' := by
  have hl := run_call_load (P := Try.prog) Try.func45 (by kernel_rfl) (by kernel_rfl) (by kernel_rfl) .i64 (by kernel_rfl) hc
  go_enter Try.func30, Try.ntmps30
  go_wp2
  go_ret
  exact ⟨rfl, rfl⟩

set_option maxRecDepth 100000 in
theorem at_shut (b off : Nat) (w : World) (c3 : w.cell? ⟨b, off + 3, none⟩ = some (.int .u32 0)) :
    Calls Try.prog 18 #[.pointer (some ⟨b, off, none⟩)] w fun e w' => e = .returned (.tuple #[.int .i64 0, .bool false]) ∧ w = w' := by
  have hnot : ∀ (x : Bool) (w : World), (Op.unary .not (.bool x)).run Try.prog w = .ok (.bool (!x)) w := fun _ _ => rfl
  go_enter Try.func18, Try.ntmps18
  go_wp2_with (first | (go_at_call 29; refine (load_bool ⟨b, off + 3, none⟩ 0 false rfl _ (by go_simp)).mono ?_; rintro e w' ⟨rfl, rfl⟩))
  go_ret2
  exact ⟨rfl, rfl⟩

set_option maxRecDepth 100000 in
theorem at_open (b off : Nat) (v : Int) (w : World) (c3 : w.cell? ⟨b, off + 3, none⟩ = some (.int .u32 1)) (c4 : w.cell? ⟨b, off + 4, none⟩ = some (.int .i64 v)) :
    Calls Try.prog 18 #[.pointer (some ⟨b, off, none⟩)] w fun e w' => e = .returned (.tuple #[.int .i64 v, .bool true]) ∧ w = w' := by
  have hnot : ∀ (x : Bool) (w : World), (Op.unary .not (.bool x)).run Try.prog w = .ok (.bool (!x)) w := fun _ _ => rfl
  go_enter Try.func18, Try.ntmps18
  go_wp2_with (first | (go_at_call 29; refine (load_bool ⟨b, off + 3, none⟩ 1 true rfl _ (by go_simp)).mono ?_; rintro e w' ⟨rfl, rfl⟩) | (go_at_call 30; refine (load_at ⟨b, off + 4, none⟩ v _ (by go_simp)).mono ?_; rintro e w' ⟨rfl, rfl⟩))
  go_ret2
  exact ⟨rfl, rfl⟩

set_option maxRecDepth 100000 in
theorem new_latch (w : World) :
    Calls Try.prog 17 #[] w fun e w' => e = .returned (.pointer (some ⟨w.heap.size, 0, none⟩)) ∧ w.alloc (.cells (latchCells none).toArray 76) = w' := by
  go_enter Try.func17, Try.ntmps17
  go_wp2
  go_ret
  exact ⟨rfl, rfl⟩
end Go.Proofs.Ytdamjkfggmmmeac.Latch
