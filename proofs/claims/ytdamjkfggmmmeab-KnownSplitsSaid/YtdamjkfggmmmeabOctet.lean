/- What a reader's methods (chapter 1) do to memory. -/
import Derived.Test.YtdamjkfggmmmeabProg
import Derived.Test.YtdamjkfggmmmeabWMore
import Derived.WalkKit
import Derived.Laws.NewBlocks
import Derived.Laws.CopyOwn
import Derived.Laws.MakeOwn
import Derived.Lib.Hide
namespace Go.Proofs.Ytdamjkfggmmmeab.Octet
open Go.RowKit Go.Proofs.YtdamjkfggmmmeabW.PrintWords Go.Proofs.YtdamjkfggmmmeabW.PrintLast Go.Proofs.YtdamjkfggmmmeabW.PrintMore
set_option linter.unusedVariables false
set_option linter.unusedSimpArgs false

/-- A reader: its bytes, how many it is over, and whether it went bad. -/
structure Rd where
  b : List Int
  at_ : Nat
  bad : Bool
def bytes (l : List Int) : List Value := l.map (Value.int .u8)
/-- The reader in block g, its bytes in block ob. -/
def rdCells (ob : Nat) (s : Rd) : Array Value := #[.slice (some ⟨ob, 0, none⟩) s.b.length s.b.length, .int .i64 s.at_, .bool s.bad]
theorem reads_cells {w : World} {A : Option Addr} {l : List Int} (h : Kd.C (Kd.int .u8) w A l.length l) (hp : 0 < l.length) : ∃ ad, A = some ad ∧ ∀ j v, (bytes l)[j]? = some v → w.cell? (ad.add j) = some v := by
  obtain ⟨ad, e, hc⟩ := h.2.2 hp
  refine ⟨ad, e, fun j v hv => ?_⟩
  obtain ⟨n, hn, rfl⟩ : ∃ n, l[j]? = some n ∧ Value.int .u8 n = v := by simpa [bytes] using hv
  obtain ⟨c, hl, hK, hcell⟩ := hc j n hn
  obtain rfl : c = [Value.int .u8 n] := hK
  simpa [Kd.int, Kd.scalar] using hcell 0 (Value.int .u8 n) rfl
theorem zeros_eq (n : Nat) : madeCells #[Value.int .u8 0] n = (List.replicate n (Value.int .u8 0)).toArray := by
  apply Array.ext'
  apply List.ext_getElem?
  intro i
  simp [madeCells, List.getElem?_replicate]
  by_cases h : i < n <;> simp [h, Nat.mod_one]
theorem info5 : (Try.prog.info? 5).map (fun i => (i.zero, i.size, i.bytes)) = some (some (.int .u8 0), 1, 1) := by kernel_rfl
set_option maxRecDepth 100000 in
/-- 'make([]byte, n)'. -/
theorem make5 (n : Nat) (hn : n ≤ 16000000) (w : World) : (Instr.makeSlice 22 (.int .i64 (n : Int)) (.int .i64 (n : Int))).run Try.prog w = .ok (.slice (some ⟨w.heap.size, 0, none⟩) n n) (w.alloc (.cells (List.replicate n (Value.int .u8 0)).toArray 5)) := by
  obtain ⟨i, hi, he⟩ := Option.map_eq_some_iff.1 info5
  injection he with h1 he
  injection he with h2 h3
  have := run_makeSlice (P := Try.prog) (w := w) 22 5 i (.int .u8 0) (by kernel_rfl) hi h1 .i64 .i64 (n : Int) (n : Int) (by omega) (by omega) (by rw [h2]; omega) (by rw [h3]; omega) (by omega)
  rw [h2, Int.toNat_natCast, Nat.mul_one] at this
  rw [this]
  congr 2
  rw [← zeros_eq]; rfl
theorem size5 : (Try.prog.info? 5).map (·.size) = some 1 := by kernel_rfl

theorem bytes_len (l : List Int) : (bytes l).length = l.length := by simp [bytes]
theorem bytes_one (l : List Int) : ∀ v ∈ bytes l, v.oneCell' = true := by intro v hv; simp [bytes] at hv; obtain ⟨n, _, rfl⟩ := hv; rfl
set_option maxRecDepth 100000 in
/-- 'copy(out, b)' into a row of as many cells. -/
theorem copy5 (g : Nat) (cur : List Value) (t : TypeId) (A : Option Addr) (l : List Int) (c d : Nat) (w : World) (hg : w.heap[g]? = some (.cells cur.toArray t (0, 0))) (hcur : cur.length = l.length) (hr : Kd.C (Kd.int .u8) w A l.length l) :
    (Builtin.copy_ #[22, 22] 3 #[.slice (some ⟨g, 0, none⟩) l.length d, .slice A l.length c]).run Try.prog w = .ok (.int .i64 (l.length : Int)) (w.setRow g (bytes l).toArray) := by
  have hb := bytes_len l
  have hb1 := bytes_one l
  rcases Nat.eq_zero_or_pos l.length with h0 | h0
  · obtain rfl : l = [] := List.eq_nil_of_length_eq_zero h0
    obtain rfl : cur = [] := List.eq_nil_of_length_eq_zero hcur
    have := run_copy_none (P := Try.prog) w 22 22 3 5 (some ⟨g, 0, none⟩) A 0 d 0 c (by kernel_rfl) size5 rfl
    rw [show (bytes []).toArray = #[] from rfl, setRow_self w g #[] t (0, 0) hg]
    exact this
  · obtain ⟨ad, rfl, hc⟩ := reads_cells hr h0
    have := run_copy_row (P := Try.prog) w 22 22 3 5 g 0 l.length d ad l.length c cur.toArray t (bytes l) (by kernel_rfl) size5 hg (by simp [hb]) hc (by simp [hb, hcur]) hb1
    rw [this]
    congr 2
    · simp [goInt, hb]
    · simp [hb, ← hcur]

set_option maxRecDepth 100000 in
theorem read_new (A : Option Addr) (l : List Int) (c : Nat) (w : World) (hr : Kd.C (Kd.int .u8) w A l.length l) (hm : l.length ≤ 1000000) :
    Calls Try.prog 16 #[.slice A l.length c] w fun e w' => ∃ g ob, e = .returned (.pointer (some ⟨g, 0, none⟩)) ∧ w'.heap[g]? = some (.cells (rdCells ob ⟨l, 0, false⟩) 70 (0, 0)) ∧ w'.heap[ob]? = some (.cells (bytes l).toArray 5 (0, 0)) ∧ w.heap.size ≤ g ∧ w.heap.size ≤ ob ∧ ob < g ∧ Below w.heap.size w w' := by
  have hmk := make5 l.length (by omega) w
  obtain ⟨W0, hW0⟩ : ∃ W0, W0 = w.alloc (.cells (List.replicate l.length (Value.int .u8 0)).toArray 5) := ⟨_, rfl⟩
  rw [← hW0] at hmk
  have hb0 : W0.heap[w.heap.size]? = some (.cells (List.replicate l.length (Value.int .u8 0)).toArray 5 (0, 0)) := by rw [hW0]; exact heap_alloc_new w _
  have hbel0 : Below w.heap.size w W0 := by rw [hW0]; exact (Below.refl _ _).alloc (Nat.le_refl _) _
  have hcp := copy5 w.heap.size _ 5 A l c l.length W0 hb0 (by simp) (Kd.C_below hr hbel0)
  obtain ⟨W1, hW1⟩ : ∃ W1, W1 = W0.setRow w.heap.size (bytes l).toArray := ⟨_, rfl⟩
  rw [← hW1] at hcp
  have hb1 : W1.heap[w.heap.size]? = some (.cells (bytes l).toArray 5 (0, 0)) := by rw [hW1]; exact setRow_heap W0 _ _ _ _ _ hb0
  have hbel1 : Below w.heap.size w W1 := by rw [hW1]; exact below_setRow hbel0 (Nat.le_refl _) _
  have H := Lib.hid (And.intro hb1 hbel1)
  have hsz : w.heap.size < W1.heap.size := blk_lt hb1
  clear hb1 hbel1 hW1 hW0 hb0 hbel0 hr
  go_enter Try.func16, Try.ntmps16
  go_wp2
  go_ret
  refine ⟨W1.heap.size, w.heap.size, rfl, heap_alloc_new W1 _, blk_alloc H.out.1 _, by omega, by omega, by omega, H.out.2.alloc (by omega) _⟩

theorem cell0 {w : World} {g ob : Nat} {s : Rd} {T : TypeId} (hg : w.heap[g]? = some (.cells (rdCells ob s) T (0, 0))) : w.cell? ⟨g, 0, none⟩ = some (.slice (some ⟨ob, 0, none⟩) s.b.length s.b.length) := (blk_cell hg 0).trans rfl
theorem cell1 {w : World} {g ob : Nat} {s : Rd} {T : TypeId} (hg : w.heap[g]? = some (.cells (rdCells ob s) T (0, 0))) : w.cell? ⟨g, 1, none⟩ = some (.int .i64 s.at_) := (blk_cell hg 1).trans rfl
theorem cell2 {w : World} {g ob : Nat} {s : Rd} {T : TypeId} (hg : w.heap[g]? = some (.cells (rdCells ob s) T (0, 0))) : w.cell? ⟨g, 2, none⟩ = some (.bool s.bad) := (blk_cell hg 2).trans rfl
theorem row_cell {w : World} {ob : Nat} {l : List Int} (ho : w.heap[ob]? = some (.cells (bytes l).toArray 5 (0, 0))) {i : Nat} {v : Int} (hi : l[i]? = some v) : w.cell? ⟨ob, i, none⟩ = some (.int .u8 v) := by
  refine (blk_cell ho i).trans ?_
  simp [bytes, hi]

set_option maxRecDepth 100000 in
theorem step_bad (g ob : Nat) (s : Rd) (n : Int) (w : World) (hg : w.heap[g]? = some (.cells (rdCells ob s) 70 (0, 0))) (hb : s.bad = true) :
    Calls Try.prog 46 #[.pointer (some ⟨g, 0, none⟩), .int .i64 n] w fun e w' => e = .returned (.tuple #[.slice none 0 0, .bool false]) ∧ w = w' := by
  have c2 := cell2 hg
  rw [hb] at c2
  go_enter Try.func46, Try.ntmps46
  go_wp2
  go_ret2
  exact ⟨rfl, rfl⟩

set_option maxRecDepth 100000 in
theorem step_neg (g ob : Nat) (s : Rd) (n : Int) (w : World) (hg : w.heap[g]? = some (.cells (rdCells ob s) 70 (0, 0))) (hb : s.bad = false) (hn : n < 0) :
    Calls Try.prog 46 #[.pointer (some ⟨g, 0, none⟩), .int .i64 n] w fun e w' => e = .returned (.tuple #[.slice none 0 0, .bool false]) ∧ ∃ m, (w.setCell ⟨g, 2, none⟩ (.bool true)).drewN m = w' := by
  have c2 := cell2 hg
  have z2 := blk_frozen hg 2
  rw [hb] at c2
  have d0 : decide (n < 0) = true := decide_eq_true hn
  clear hg hb
  go_enter Try.func46, Try.ntmps46
  go_wp2
  go_region
  go_wp2
  go_ret2
  exact ⟨rfl, 1, rfl⟩

set_option maxRecDepth 100000 in
set_option maxHeartbeats 4000000 in
theorem step_far (g ob : Nat) (s : Rd) (n : Int) (w : World) (hg : w.heap[g]? = some (.cells (rdCells ob s) 70 (0, 0))) (hb : s.bad = false) (ha : s.at_ ≤ s.b.length) (hm : s.b.length ≤ 1000000) (h0 : 0 ≤ n) (hn : n > (s.b.length : Int) - s.at_) :
    Calls Try.prog 46 #[.pointer (some ⟨g, 0, none⟩), .int .i64 n] w fun e w' => e = .returned (.tuple #[.slice none 0 0, .bool false]) ∧ ∃ m, (w.setCell ⟨g, 2, none⟩ (.bool true)).drewN m = w' := by
  have c0 := cell0 hg
  have c1 := cell1 hg
  have c2 := cell2 hg
  have z2 := blk_frozen hg 2
  rw [hb] at c2
  have d0 : decide (n < 0) = false := decide_eq_false (by omega)
  obtain ⟨q, hq⟩ : ∃ q, q = (s.b.length : Int) - (s.at_ : Int) := ⟨_, rfl⟩
  have hw : wrap64 ((s.b.length : Int) - (s.at_ : Int)) = q := by rw [hq]; unfold wrap64; omega
  rw [← hq] at hn
  have d1 : decide (q < n) = true := decide_eq_true hn
  clear hg hb ha hm h0 hn hq
  go_enter Try.func46, Try.ntmps46
  go_wp2
  go_region
  all_goals go_wp2
  all_goals go_ret2
  all_goals exact ⟨rfl, 1, rfl⟩

set_option maxRecDepth 100000 in
set_option maxHeartbeats 4000000 in
theorem step_yes (g ob : Nat) (s : Rd) (n : Nat) (w : World) (hg : w.heap[g]? = some (.cells (rdCells ob s) 70 (0, 0))) (hb : s.bad = false) (ha : s.at_ + n ≤ s.b.length) (hm : s.b.length ≤ 1000000) :
    Calls Try.prog 46 #[.pointer (some ⟨g, 0, none⟩), .int .i64 (n : Int)] w fun e w' => ∃ o, e = .returned (.tuple #[.slice (some ⟨ob, o, none⟩) n (s.b.length - s.at_), .bool true]) ∧ (0 < n → o = s.at_) ∧ ∃ m, (w.setCell ⟨g, 1, none⟩ (.int .i64 ((s.at_ + n : Nat) : Int))).drewN m = w' := by
  have c0 := cell0 hg
  have c1 := cell1 hg
  have c2 := cell2 hg
  have z1 := blk_frozen hg 1
  rw [hb] at c2
  have d0 : decide ((n : Int) < 0) = false := decide_eq_false (by omega)
  obtain ⟨q, hq⟩ : ∃ q, q = (s.b.length : Int) - (s.at_ : Int) := ⟨_, rfl⟩
  have hw : wrap64 ((s.b.length : Int) - (s.at_ : Int)) = q := by rw [hq]; unfold wrap64; omega
  have hw2 : wrap64 ((s.at_ : Int) + (n : Int)) = ((s.at_ + n : Nat) : Int) := by unfold wrap64; omega
  have d1 : decide (q < (n : Int)) = false := decide_eq_false (by omega)
  clear hg hb hq
  go_enter Try.func46, Try.ntmps46
  go_wp2
  go_region
  all_goals go_wp2
  all_goals go_region
  have hn : s.at_ + n - s.at_ = n := by omega
  go_wp2
  · go_ret2
    exact ⟨0, by first | rfl | simp, fun h => by omega, 2, rfl⟩
  · go_ret2
    exact ⟨s.at_, by first | rfl | simp, fun _ => rfl, 2, rfl⟩

/-- A cut of the reader's row is read. -/
theorem cut_reads {w : World} {ob o n at_ : Nat} {l : List Int} (ho : w.heap[ob]? = some (.cells (bytes l).toArray 5 (0, 0))) (hle : at_ + n ≤ l.length) (hm : l.length ≤ 1000000) (hpos : 0 < n → o = at_) : Kd.C (Kd.int .u8) w (some ⟨ob, o, none⟩) n ((l.drop at_).take n) := by
  refine ⟨by simp; omega, by omega, fun h => ⟨_, rfl, fun j p hp => ?_⟩⟩
  have hj : j < n := by
    have := (List.getElem?_eq_some_iff.1 hp).1
    simp at this; omega
  obtain rfl := hpos h
  have hp' : l[o + j]? = some p := by
    rw [List.getElem?_take_of_lt hj, List.getElem?_drop] at hp; exact hp
  refine ⟨[Value.int .u8 p], rfl, rfl, fun i u hu => ?_⟩
  have hi : i = 0 := by
    have := (List.getElem?_eq_some_iff.1 hu).1
    simp at this; omega
  subst hi
  have hu' : Value.int .u8 p = u := by simpa using hu
  subst hu'
  have := row_cell ho hp'
  have hadd : (⟨ob, o, none⟩ : Addr).add (j * (Kd.int .u8).sz + 0) = ⟨ob, o + j, none⟩ := by
    simp [Kd.int, Kd.scalar]; unfold Addr.add; split <;> simp_all
  rw [hadd]; exact this
/-- A whole row of bytes is the call's own. -/
theorem own_whole {w : World} {g base : Nat} {l : List Int} (hb : w.heap[g]? = some (.cells (bytes l).toArray 5 (0, 0))) (hg : base ≤ g) (hm : l.length ≤ 1000000) : Kd.R (Kd.int .u8) 5 w base (fun _ => True) (.slice (some ⟨g, 0, none⟩) l.length l.length) l :=
  Kd.R_of_own (h1 := fun _ => rfl) ⟨by simp [encs_length], .inr ⟨g, l.length, (bytes l).toArray, rfl, hg, hb, Nat.le_refl _, by unfold maxLen; omega, by simp [bytes], by rw [Nat.mul_one]; simp only [bytes, encs]; exact List.take_of_length_le (by simp)⟩⟩ (fun _ _ => trivial)

/-- The reader s is told by blocks g and ob. -/
structure Is (w : World) (g ob : Nat) (s : Rd) : Prop where
  hg : w.heap[g]? = some (.cells (rdCells ob s) 70 (0, 0))
  ho : w.heap[ob]? = some (.cells (bytes s.b).toArray 5 (0, 0))
  ne : ob ≠ g
  le : s.at_ ≤ s.b.length
  few : s.b.length ≤ 1000000
/-- Nothing but block g is not as it was. -/
theorem Is.bad_ {w : World} {g ob : Nat} {s : Rd} (h : Is w g ob s) : Is (w.setCell ⟨g, 2, none⟩ (.bool true)) g ob { s with bad := true } := by
  refine ⟨?_, ?_, h.ne, h.le, h.few⟩
  · have := blk_set h.hg 2 (.bool true)
    simpa [rdCells] using this
  · exact blk_far h.ho h.ne _
theorem Is.on_ {w : World} {g ob : Nat} {s : Rd} (h : Is w g ob s) (n : Nat) (hn : s.at_ + n ≤ s.b.length) : Is (w.setCell ⟨g, 1, none⟩ (.int .i64 ((s.at_ + n : Nat) : Int))) g ob { s with at_ := s.at_ + n } := by
  refine ⟨?_, ?_, h.ne, hn, h.few⟩
  · have := blk_set h.hg 1 (.int .i64 ((s.at_ + n : Nat) : Int))
    simpa [rdCells] using this
  · exact blk_far h.ho h.ne _
theorem Is.drewN {w : World} {g ob : Nat} {s : Rd} (h : Is w g ob s) (m : Nat) : Is (w.drewN m) g ob s := ⟨h.hg, h.ho, h.ne, h.le, h.few⟩
theorem Is.alloc {w : World} {g ob : Nat} {s : Rd} (h : Is w g ob s) (o : Obj) : Is (w.alloc o) g ob s := ⟨blk_alloc h.hg _, blk_alloc h.ho _, h.ne, h.le, h.few⟩
theorem Is.row {w : World} {g ob : Nat} {s : Rd} (h : Is w g ob s) {k : Nat} (hk1 : k ≠ g) (hk2 : k ≠ ob) (cs : Array Value) : Is (w.setRow k cs) g ob s := ⟨(setRow_other w k g cs (Ne.symm hk1)).trans h.hg, (setRow_other w k ob cs (Ne.symm hk2)).trans h.ho, h.ne, h.le, h.few⟩

theorem below_le {B C : Nat} {w W : World} (h : Below C w W) (hB : B ≤ C) : Below B w W := ⟨h.os, h.tape, h.output, h.size, fun k hk => h.block k (by omega)⟩
/-- What a step does. -/
def stepF (s : Rd) (n : Int) : Option (List Int) × Rd :=
  if s.bad = true then (none, s)
  else if n < 0 ∨ n > (s.b.length : Int) - s.at_ then (none, { s with bad := true })
  else (some ((s.b.drop s.at_).take n.toNat), { s with at_ := s.at_ + n.toNat })
theorem stepF_len {s : Rd} {n : Int} {p : List Int} {s' : Rd} (h : stepF s n = (some p, s')) (hle : s.at_ ≤ s.b.length) : (p.length : Int) = n ∧ p.length ≤ s.b.length := by
  unfold stepF at h
  split at h
  · cases h
  · split at h
    · cases h
    · rename_i h1 h2
      obtain ⟨h3, h4⟩ := Prod.mk.inj h
      obtain rfl := Option.some.inj h3
      simp; omega

def Ans (r : Option (List Int)) (e : Ending) (w' : World) : Prop :=
  match r with
  | none => e = .returned (.tuple #[.slice none 0 0, .bool false])
  | some p => ∃ A c, e = .returned (.tuple #[.slice A p.length c, .bool true]) ∧ Kd.C (Kd.int .u8) w' A p.length p ∧ p.length ≤ c

/-- The step, all its ways in one: its answer's value, the cells that it leads to. -/
theorem step_all (g ob : Nat) (s : Rd) (n : Int) (w : World) (h : Is w g ob s) (r : Option (List Int)) (s' : Rd) (hr : stepF s n = (r, s')) :
    Calls Try.prog 46 #[.pointer (some ⟨g, 0, none⟩), .int .i64 n] w fun e w' => Is w' g ob s' ∧ KeepBut w w' g none ∧ (∀ B, B ≤ g → Below B w w') ∧ Ans r e w' := by
  unfold stepF at hr
  split at hr
  · rename_i hb
    obtain ⟨rfl, rfl⟩ := Prod.mk.inj hr
    refine (step_bad g ob s n w h.hg hb).mono ?_
    rintro e w' ⟨rfl, rfl⟩
    exact ⟨h, KeepBut.refl _ _ _, fun B _ => Below.refl _ _, rfl⟩
  · rename_i hb
    have hb : s.bad = false := by simpa using hb
    split at hr
    · rename_i hn
      obtain ⟨rfl, rfl⟩ := Prod.mk.inj hr
      have hcl : Calls Try.prog 46 #[.pointer (some ⟨g, 0, none⟩), .int .i64 n] w fun e w' => e = .returned (.tuple #[.slice none 0 0, .bool false]) ∧ ∃ m, (w.setCell ⟨g, 2, none⟩ (.bool true)).drewN m = w' := by
        by_cases h0 : n < 0
        · exact step_neg g ob s n w h.hg hb h0
        · exact step_far g ob s n w h.hg hb h.le h.few (by omega) (by omega)
      refine hcl.mono ?_
      rintro e w' ⟨rfl, m, rfl⟩
      exact ⟨h.bad_.drewN m, keep_drewN ((KeepBut.refl _ _ _).set_ _ _) m, fun B hB => pw_below_drewN ((Below.refl _ _).setCell (p := ⟨g, 2, none⟩) hB _) m, rfl⟩
    · rename_i hn
      obtain ⟨rfl, rfl⟩ := Prod.mk.inj hr
      obtain ⟨q, rfl⟩ : ∃ q : Nat, n = (q : Int) := ⟨n.toNat, by omega⟩
      have hq : (q : Int).toNat = q := by omega
      have hle : s.at_ + q ≤ s.b.length := by omega
      refine (step_yes g ob s q w h.hg hb hle h.few).mono ?_
      rintro e w' ⟨o, rfl, hpos, m, rfl⟩
      have hl : ((s.b.drop s.at_).take q).length = q := by simp; omega
      rw [hq]
      refine ⟨(h.on_ q hle).drewN m, keep_drewN ((KeepBut.refl _ _ _).set_ _ _) m, fun B hB => pw_below_drewN ((Below.refl _ _).setCell (p := ⟨g, 1, none⟩) hB _) m, some ⟨ob, o, none⟩, s.b.length - s.at_, by rw [hl], ?_, by rw [hl]; omega⟩
      rw [hl]
      exact cut_reads ((h.on_ q hle).drewN m).ho hle h.few hpos

set_option maxRecDepth 100000 in
set_option maxHeartbeats 4000000 in
theorem take_all (g ob : Nat) (s : Rd) (n : Int) (w : World) (h : Is w g ob s) (r : Option (List Int)) (s' : Rd) (hr : stepF s n = (r, s')) :
    Calls Try.prog 18 #[.pointer (some ⟨g, 0, none⟩), .int .i64 n] w fun e w' => ∃ v : Value, e = .returned v ∧ Kd.R (Kd.int .u8) 5 w' w.heap.size (fun _ => True) v (r.getD []) ∧ Is w' g ob s' ∧ KeepBut w w' g none ∧ (∀ B, B ≤ g → B ≤ w.heap.size → Below B w w') := by
  have hnot : ∀ (x : Bool) (w : World), (Op.unary .not (.bool x)).run Try.prog w = .ok (.bool (!x)) w := fun _ _ => rfl
  have HS := Lib.hid (step_all g ob s n w h r s' hr)
  cases r with
  | none =>
    go_enter Try.func18, Try.ntmps18
    go_wp2_with fail
    refine HS.out.mono ?_
    rintro e w2 ⟨h1, h2, h3, rfl⟩
    have H := Lib.hid (And.intro h1 (And.intro h2 h3))
    clear h1 h2 h3
    go_wp2
    go_ret
    exact ⟨_, rfl, Kd.R_nil _ _ _ _ _, H.out.1, H.out.2.1, fun B hB _ => H.out.2.2 B hB⟩
  | some p =>
    have hp6 : p.length ≤ 1000000 := by
      have := (stepF_len hr h.le).2
      have := h.few
      omega
    have hgl := blk_lt h.hg
    clear hr h
    go_enter Try.func18, Try.ntmps18
    go_wp2_with fail
    refine HS.out.mono ?_
    rintro e w2 ⟨h1, h2, h3, A, c, rfl, hC, hc⟩
    have hg2 := blk_lt h1.hg
    have ho2 := blk_lt h1.ho
    have hws : w.heap.size ≤ w2.heap.size := (h3 0 (by omega)).size
    have hmk := make5 p.length (by omega) w2
    obtain ⟨W0, hW0⟩ : ∃ W0, W0 = w2.alloc (.cells (List.replicate p.length (Value.int .u8 0)).toArray 5) := ⟨_, rfl⟩
    rw [← hW0] at hmk
    have hb0 : W0.heap[w2.heap.size]? = some (.cells (List.replicate p.length (Value.int .u8 0)).toArray 5 (0, 0)) := by rw [hW0]; exact heap_alloc_new w2 _
    have hbel0 : Below w2.heap.size w2 W0 := by rw [hW0]; exact (Below.refl _ _).alloc (Nat.le_refl _) _
    have hcp := copy5 w2.heap.size _ 5 A p c p.length W0 hb0 (by simp) (Kd.C_below hC hbel0)
    obtain ⟨W1, hW1⟩ : ∃ W1, W1 = W0.setRow w2.heap.size (bytes p).toArray := ⟨_, rfl⟩
    rw [← hW1] at hcp
    have hb1 : W1.heap[w2.heap.size]? = some (.cells (bytes p).toArray 5 (0, 0)) := by rw [hW1]; exact setRow_heap W0 _ _ _ _ _ hb0
    have hbel1 : Below w2.heap.size w2 W1 := by rw [hW1]; exact below_setRow hbel0 (Nat.le_refl _) _
    have hI1 : Is W1 g ob s' := by rw [hW1, hW0]; exact (h1.alloc _).row (by omega) (by omega) _
    have hK1 : KeepBut w W1 g none := KeepBut.trans h2 (KeepBut.of_below hbel1 g none) (.inl rfl)
    have hB1 : ∀ B, B ≤ g → B ≤ w.heap.size → Below B w W1 := fun B hB hB2 => (h3 B hB).trans (below_le hbel1 (by omega))
    have H := Lib.hid (And.intro hI1 (And.intro hK1 (And.intro hB1 (own_whole (base := w.heap.size) hb1 hws (by omega)))))
    clear hI1 hK1 hB1 hb1 hbel1 hW1 hW0 hb0 hbel0 h1 h2 h3 hC hp6 hgl hg2 ho2 hws HS
    go_wp2
    go_ret
    exact ⟨_, rfl, H.out.2.2.2, H.out.1, H.out.2.1, H.out.2.2.1⟩

/-- The number that bytes are, the highest first. -/
def num (l : List Int) : Int := l.foldl (fun v c => v * 256 + c) 0
theorem num_snoc (l : List Int) (c : Int) : num (l ++ [c]) = num l * 256 + c := by simp [num]
theorem fold_range (l : List Int) : ∀ a : Int, 0 ≤ a → (∀ c ∈ l, 0 ≤ c ∧ c ≤ 255) → 0 ≤ l.foldl (fun v c => v * 256 + c) a ∧ l.foldl (fun v c => v * 256 + c) a < (a + 1) * 256 ^ l.length := by
  induction l with
  | nil => intro a ha _; simp; omega
  | cons c l ih =>
    intro a ha hb
    have hc := hb c (by simp)
    obtain ⟨h1, h2⟩ := ih (a * 256 + c) (by omega) (fun x hx => hb x (by simp [hx]))
    refine ⟨h1, Int.lt_of_lt_of_le h2 ?_⟩
    rw [List.length_cons, Int.pow_succ, Int.mul_comm (256 ^ l.length) 256, ← Int.mul_assoc]
    exact Int.mul_le_mul_of_nonneg_right (by omega) (Int.le_of_lt (Int.pow_pos (by omega)))
theorem num_range (l : List Int) (hb : ∀ c ∈ l, 0 ≤ c ∧ c ≤ 255) : 0 ≤ num l ∧ num l < 256 ^ l.length := by
  have := fold_range l 0 (by omega) hb
  simpa [num] using this
theorem num_small (l : List Int) (hb : ∀ c ∈ l, 0 ≤ c ∧ c ≤ 255) (hl : l.length ≤ 6) : 0 ≤ num l ∧ num l < 281474976710656 := by
  obtain ⟨h1, h2⟩ := num_range l hb
  have h3 : (256 : Int) ^ l.length ≤ 281474976710656 := by
    have : l.length = 0 ∨ l.length = 1 ∨ l.length = 2 ∨ l.length = 3 ∨ l.length = 4 ∨ l.length = 5 ∨ l.length = 6 := by omega
    rcases this with h | h | h | h | h | h | h <;> rw [h] <;> decide
  omega
theorem or_step (p : List Int) (i : Nat) (hlt : i < p.length) (hp : ∀ c ∈ p, 0 ≤ c ∧ c ≤ 255) (hlen : p.length ≤ 7) : bits .or .i64 (wrap64 (num (p.take i) * 256)) (wrap64 p[i]) = num (p.take (i + 1)) := by
  obtain ⟨v0, v1⟩ := num_small (p.take i) (fun c hc => hp c (List.mem_of_mem_take hc)) (by simp; omega)
  obtain ⟨c0, c1⟩ := hp p[i] (List.getElem_mem hlt)
  rw [show p.take (i + 1) = p.take i ++ [p[i]] by simp [List.take_append_getElem], num_snoc]
  generalize num (p.take i) = V at v0 v1 ⊢
  generalize p[i] = c at c0 c1 ⊢
  rw [show wrap64 (V * 256) = V * 256 by unfold wrap64; omega, show wrap64 c = c by unfold wrap64; omega]
  exact bits_join .i64 63 (by decide) (fun n h0 h1 => by rw [i64_w]; unfold wrap64; omega) 8 (V * 256) c (by omega) (by omega) (by omega) c0 (by omega) (by omega)
def numN (n : Int) : Int := if n < 1 ∨ n > 7 then -1 else n

set_option maxRecDepth 100000 in
set_option maxHeartbeats 4000000 in
theorem num_all (g ob : Nat) (s : Rd) (n : Int) (w : World) (h : Is w g ob s) (r : Option (List Int)) (s' : Rd) (hr : stepF s (numN n) = (r, s')) (hby : ∀ p, r = some p → ∀ c ∈ p, 0 ≤ c ∧ c ≤ 255) :
    Calls Try.prog 19 #[.pointer (some ⟨g, 0, none⟩), .int .i64 n] w fun e w' => e = .returned (.int .i64 (num (r.getD []))) ∧ Is w' g ob s' ∧ KeepBut w w' g none ∧ (∀ B, B ≤ g → Below B w w') := by
  have hnot : ∀ (x : Bool) (w : World), (Op.unary .not (.bool x)).run Try.prog w = .ok (.bool (!x)) w := fun _ _ => rfl
  have HS := Lib.hid (step_all g ob s (numN n) w h r s' hr)
  have hn1 : n < 1 ∨ (1 ≤ n ∧ 7 < n) ∨ (1 ≤ n ∧ n ≤ 7) := by omega
  cases r with
  | none =>
    have hm1 : n < 1 → numN n = -1 := fun h => by unfold numN; rw [if_pos]; omega
    have hm2 : 1 ≤ n ∧ 7 < n → numN n = -1 := fun h => by unfold numN; rw [if_pos]; omega
    have hm3 : 1 ≤ n ∧ n ≤ 7 → numN n = n := fun h => by unfold numN; rw [if_neg]; omega
    rcases hn1 with h1 | ⟨h1, h2⟩ | ⟨h1, h2⟩
    · rw [hm1 h1] at HS
      go_enter Try.func19, Try.ntmps19
      go_wp2_with fail
      refine HS.out.mono ?_
      rintro e w2 ⟨i1, i2, i3, rfl⟩
      have H := Lib.hid (And.intro i1 (And.intro i2 i3))
      clear i1 i2 i3
      go_wp2
      go_ret
      exact ⟨rfl, H.out⟩
    · rw [hm2 ⟨h1, h2⟩] at HS
      go_enter Try.func19, Try.ntmps19
      go_wp2_with fail
      refine HS.out.mono ?_
      rintro e w2 ⟨i1, i2, i3, rfl⟩
      have H := Lib.hid (And.intro i1 (And.intro i2 i3))
      clear i1 i2 i3
      go_wp2
      go_ret
      exact ⟨rfl, H.out⟩
    · rw [hm3 ⟨h1, h2⟩] at HS
      go_enter Try.func19, Try.ntmps19
      go_wp2_with fail
      refine HS.out.mono ?_
      rintro e w2 ⟨i1, i2, i3, rfl⟩
      have H := Lib.hid (And.intro i1 (And.intro i2 i3))
      clear i1 i2 i3
      go_wp2
      go_ret
      exact ⟨rfl, H.out⟩
  | some p =>
    have hpl := (stepF_len hr h.le).1
    have hnn : 1 ≤ n ∧ n ≤ 7 ∧ numN n = n := by
      unfold numN at hpl ⊢
      split at hpl
      · omega
      · rename_i h0; rw [if_neg h0]; omega
    obtain ⟨h1, h2, h3⟩ := hnn
    rw [h3] at HS hpl
    have hp := hby p rfl
    have hlen : p.length ≤ 7 := by omega
    clear hby hr hn1 h3 hpl
    go_enter Try.func19, Try.ntmps19
    go_wp2_with fail
    refine HS.out.mono ?_
    rintro e w2 ⟨i1, i2, i3, A, c, rfl, hC, hc⟩
    have H := Lib.hid (And.intro i1 (And.intro i2 i3))
    have HC := Aside0.mk hC
    clear i1 i2 i3 hC HS
    go_wp2
    go_loopg [7, 26] (p.length + 1) (fun kq v7 v26 w' => ∃ i : Nat, v7 = .int .i64 (num (p.take i)) ∧ v26 = .int .i64 (i : Int) ∧ Aside0 (i ≤ p.length) ∧ Aside0 (kq + i = p.length + 1) ∧ w' = w2)
    case atStart => exact ⟨0, rfl, rfl, ⟨by omega⟩, ⟨by omega⟩, rfl⟩
    case round =>
      obtain ⟨i, rfl, rfl, hi, hk, rfl⟩ := hrel
      rcases Nat.lt_or_ge i p.length with hlt | hge
      · obtain ⟨ad, cc, rfl, hcl, hK, hcell⟩ := Kd.C_get HC.out (0 : Int) (i : Int) (by omega) (by omega)
        obtain rfl : cc = [Value.int .u8 (p.getD (i : Int).toNat 0)] := hK
        have hx := hcell 0 _ rfl
        have hq : (p.getD (i : Int).toNat 0) = p[i] := by simp [hlt]
        rw [hq] at hx
        simp only [Int.toNat_natCast, Kd.int, Kd.scalar, Nat.mul_one, Nat.add_zero] at hx
        have d0 : decide ((i : Int) < (p.length : Int)) = true := decide_eq_true (by omega)
        clear hcell hcl hq
        obtain ⟨gk, rfl⟩ : ∃ m, gk = m + 1 := ⟨gk - 1, by have := hk.out; omega⟩
        go_wp2
        go_roundg gk
        case measure => omega
        case rel =>
          refine ⟨i + 1, ?_, by simp, ⟨by omega⟩, ⟨by have := hk.out; omega⟩, rfl⟩
          congr 1
          exact or_step p i hlt hp hlen
      · have d0 : decide (i < p.length) = false := decide_eq_false (by omega)
        have hie : i = p.length := by have := hi.out; omega
        have htk : p.take i = p := by rw [hie, List.take_length]
        clear hge hie
        go_wp2
        go_ret
        exact ⟨by simp [htk], H.out⟩

set_option maxRecDepth 100000 in
theorem bad_is (g ob : Nat) (s : Rd) (w : World) (h : Is w g ob s) :
    Calls Try.prog 47 #[.pointer (some ⟨g, 0, none⟩)] w fun e w' => e = .returned (.bool s.bad) ∧ w = w' := by
  have c2 := cell2 h.hg
  go_enter Try.func47, Try.ntmps47
  go_wp2
  go_ret
  exact ⟨rfl, rfl⟩

set_option maxRecDepth 100000 in
theorem left_is (g ob : Nat) (s : Rd) (w : World) (h : Is w g ob s) :
    Calls Try.prog 32 #[.pointer (some ⟨g, 0, none⟩)] w fun e w' => e = .returned (.int .i64 (if s.bad = true then 0 else (s.b.length : Int) - s.at_)) ∧ ∃ m, w.drewN m = w' := by
  have HB := Lib.hid (bad_is g ob s w h)
  have c0 := cell0 h.hg
  have c1 := cell1 h.hg
  have hw : wrap64 ((s.b.length : Int) - (s.at_ : Int)) = (s.b.length : Int) - (s.at_ : Int) := by have := h.le; have := h.few; unfold wrap64; omega
  cases hb : s.bad with
  | true =>
    rw [hb] at HB
    go_enter Try.func32, Try.ntmps32
    go_wp2_with fail
    refine HB.out.mono ?_
    rintro e w2 ⟨rfl, rfl⟩
    go_wp2
    go_ret
    exact ⟨rfl, 0, rfl⟩
  | false =>
    rw [hb] at HB
    go_enter Try.func32, Try.ntmps32
    go_wp2_with fail
    refine HB.out.mono ?_
    rintro e w2 ⟨rfl, rfl⟩
    go_wp2
    go_region
    go_wp2
    go_ret
    exact ⟨rfl, 1, rfl⟩
set_option maxRecDepth 100000 in
theorem done_is (g ob : Nat) (s : Rd) (w : World) (h : Is w g ob s) :
    Calls Try.prog 20 #[.pointer (some ⟨g, 0, none⟩)] w fun e w' => e = .returned (.bool (!s.bad && decide (s.b.length = s.at_))) ∧ ∃ m, w.drewN m = w' := by
  have hnot : ∀ (x : Bool) (w : World), (Op.unary .not (.bool x)).run Try.prog w = .ok (.bool (!x)) w := fun _ _ => rfl
  have HB := Lib.hid (bad_is g ob s w h)
  have HL := Lib.hid (left_is g ob s w h)
  cases hb : s.bad with
  | true =>
    rw [hb] at HB
    go_enter Try.func20, Try.ntmps20
    go_wp2_with fail
    refine HB.out.mono ?_
    rintro e w2 ⟨rfl, rfl⟩
    go_wp2
    go_ret
    exact ⟨rfl, 0, rfl⟩
  | false =>
    rw [hb] at HB HL
    have hz : ((s.b.length : Int) - (s.at_ : Int) == 0) = decide (s.b.length = s.at_) := by
      rw [Bool.eq_iff_iff]; simp; omega
    go_enter Try.func20, Try.ntmps20
    go_wp2_with fail
    refine HB.out.mono ?_
    rintro e w2 ⟨rfl, rfl⟩
    go_wp2_with fail
    refine HL.out.mono ?_
    rintro e w2 ⟨rfl, m, rfl⟩
    go_wp2
    go_ret
    exact ⟨by simp [← hz], m, rfl⟩
end Go.Proofs.Ytdamjkfggmmmeab.Octet
