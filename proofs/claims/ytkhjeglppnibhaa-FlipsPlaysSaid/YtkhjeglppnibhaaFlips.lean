/- What a log of flips (chapter 48) does to memory. -/
import Derived.Test.YtkhjeglppnibhaaProg
import Derived.Test.YtkhjeglppnibhaaWMore
import Derived.Test.YtkhjeglppnibhaaWN
import Derived.WalkKit
import Derived.Laws.LoneSync
import Derived.Laws.NewBlocks
import Derived.Lib.Hide
namespace Go.Proofs.Ytkhjeglppnibhaa.Flips
open Go.RowKit Go.Proofs.YtkhjeglppnibhaaW.PrintWords Go.Proofs.YtkhjeglppnibhaaW.PrintLast Go.Proofs.YtkhjeglppnibhaaW.PrintMore
set_option linter.unusedVariables false
set_option linter.unusedSimpArgs false

/-- A flip: when, which gate, and which way. -/
structure Fl where
  at_ : Int
  g : Int
  on : Bool
def zF : Fl := ⟨0, 0, false⟩
def kF : Kd Fl := Kd.iso (Kd.pair (Kd.int .i64) (Kd.pair (Kd.int .i64) Kd.bool)) (fun x : Fl => (x.at_, x.g, x.on))
theorem kF_open {w : World} {x : Fl} {cs : List Value} (h : kF.K w x cs) : cs = [.int .i64 x.at_, .int .i64 x.g, .bool x.on] := by
  obtain ⟨_, _, rfl, rfl, ⟨_, _, rfl, rfl, rfl⟩⟩ := h
  exact rfl
theorem kF_mkM (w : World) (base : Nat) (ok : Nat → Prop) (x : Fl) : kF.M w base ok x [.int .i64 x.at_, .int .i64 x.g, .bool x.on] := ⟨[.int .i64 x.at_], [.int .i64 x.g, .bool x.on], rfl, rfl, ⟨[.int .i64 x.g], [.bool x.on], rfl, rfl, rfl⟩⟩
theorem infoF : (Try.prog.info? 32).map (fun i => (i.zero, i.size, i.bytes)) = some (some (.agg #[(.int .i64 0), (.int .i64 0), (.bool false)]), 3, 24) := by kernel_rfl
def rdF (xs : List Fl) (i : Nat) : Fl := xs.getD i zF
theorem at_F {w : World} {A : Option Addr} {n : Nat} {xs : List Fl} (h : Kd.C kF w A n xs) (i : Nat) (h1 : i < n) : ∃ ad, A = some ad ∧ w.cell? (ad.add (i * 3)) = some (.int .i64 (rdF xs i).at_) ∧ w.cell? ⟨(ad.add (i * 3)).block, (ad.add (i * 3)).off + 1, none⟩ = some (.int .i64 (rdF xs i).g) ∧ w.cell? ⟨(ad.add (i * 3)).block, (ad.add (i * 3)).off + 2, none⟩ = some (.bool (rdF xs i).on) := by
  obtain ⟨ad, c, e, _, hK, hc0⟩ := Kd.C_get h zF (i : Int) (by omega) (by omega)
  have hc : ∀ j u, c[j]? = some u → w.cell? (ad.add (i * 3 + j)) = some u := hc0
  obtain rfl := kF_open hK
  exact ⟨ad, e, hc 0 _ rfl, by rw [← add_field _ _ 1 (by omega)]; exact hc 1 _ rfl, by rw [← add_field _ _ 2 (by omega)]; exact hc 2 _ rfl⟩

/-- How often a gate has flipped. -/
def cnt (l : List Fl) (g : Int) : Nat := (l.filter fun x => x.g == g).length
def odd (n : Nat) : Bool := n % 2 == 1
theorem cnt_append (l m : List Fl) (g : Int) : cnt (l ++ m) g = cnt l g + cnt m g := by simp [cnt]
theorem cnt_le (l : List Fl) (g : Int) : cnt l g ≤ l.length := List.length_filter_le _ _
/-- The flips of a look, of the first j gates. -/
def news (l : List Fl) (o : Int → Bool) (t : Int) : Nat → List Fl
  | 0 => []
  | j + 1 => news l o t j ++ (if (o ((j + 1 : Nat) : Int) != odd (cnt l ((j + 1 : Nat) : Int))) = true then [⟨t, ((j + 1 : Nat) : Int), o ((j + 1 : Nat) : Int)⟩] else [])
theorem news_len (l : List Fl) (o : Int → Bool) (t : Int) (j : Nat) : (news l o t j).length ≤ j := by
  induction j with
  | zero => simp [news]
  | succ j ih =>
    rw [news, List.length_append]
    have : (if (o ((j + 1 : Nat) : Int) != odd (cnt l ((j + 1 : Nat) : Int))) = true then [(⟨t, ((j + 1 : Nat) : Int), o ((j + 1 : Nat) : Int)⟩ : Fl)] else []).length ≤ 1 := by split <;> simp
    omega
theorem news_cnt (l : List Fl) (o : Int → Bool) (t : Int) (j : Nat) (g : Int) (h : (j : Int) < g) : cnt (news l o t j) g = 0 := by
  induction j with
  | zero => simp [news, cnt]
  | succ j ih =>
    rw [news, cnt_append, ih (by omega)]
    split
    · have : ¬ ((j : Int) + 1 = g) := by omega
      simp [cnt, this]
    · simp [cnt]

/-- The log in block g: the flips l in its row v, and the counts of L. -/
structure Is (w : World) (base g : Nat) (v : Value) (l L : List Fl) : Prop where
  hg : w.heap[g]? = some (.cells #[v, .int .i64 (cnt L 1 : Nat), .int .i64 (cnt L 2 : Nat), .int .i64 (cnt L 3 : Nat)] 54 (0, 0))
  hR : Kd.R kF 32 w base (fun k => k ≠ g) v l
  le : base ≤ g
/-- What a method leaves: the row is the old one or a new one; all else stays. -/
structure Left (w w' : World) (base g : Nat) (v v' : Value) (l L : List Fl) : Prop where
  is : Is w' base g v' l L
  keep : KeepBut w w' g v.ownBlock
  row : v'.ownBlock = v.ownBlock ∨ ∃ b, v'.ownBlock = some b ∧ w.heap.size ≤ b
  below : Below base w w'
theorem Is.step {w w1 : World} {base g : Nat} {v : Value} {l L : List Fl} (h : Is w base g v l L) (hb : Below w.heap.size w w1) : Is w1 base g v l L :=
  ⟨(hb.block _ (blk_lt h.hg)).trans h.hg, Kd.R_below h.hR hb, h.le⟩

set_option maxRecDepth 100000 in
theorem new_log (w : World) (base : Nat) (hb : base ≤ w.heap.size) :
    Calls Try.prog 6 #[] w fun e w' => ∃ g, e = .returned (.pointer (some ⟨g, 0, none⟩)) ∧ Is w' base g (.slice none 0 0) [] [] ∧ w.heap.size ≤ g ∧ Below w.heap.size w w' := by
  go_enter Try.func6, Try.ntmps6
  go_wp2
  go_ret
  exact ⟨w.heap.size, rfl, ⟨heap_alloc_new w _, Kd.R_nil _ _ _ _ _, hb⟩, Nat.le_refl _, (Below.refl _ _).alloc (Nat.le_refl _) _⟩

theorem has_is (b : Nat) (e : Int) (w : World) : Calls Try.prog 17 #[.pointer (some ⟨b, 0, none⟩), .int .i64 e] w fun r w' => r = .returned (.bool (decide (1 ≤ e ∧ e ≤ 3))) ∧ w = w' := by
  by_cases h1 : 1 ≤ e <;> by_cases h2 : e ≤ 3
  all_goals
    go_enter Try.func17, Try.ntmps17
    go_wp2
    go_ret
    simp_all
theorem load_at (a : Addr) (x : Int) (w : World) (hc : w.cell? a = some (.int .i64 x)) :
    Calls Try.prog 18 #[.pointer (some a)] w fun e w' => e = .returned (.int .i64 x) ∧ w = w' := by
  have hl := run_call_load (P := Try.prog) Try.func22 (by kernel_rfl) (by kernel_rfl) (by kernel_rfl) .i64 (by kernel_rfl) hc
  go_enter Try.func18, Try.ntmps18
  go_wp2
  go_ret
  exact ⟨rfl, rfl⟩
theorem add_at (a : Addr) (x : Int) (w : World) (hc : w.cell? a = some (.int .i64 x)) (hz : w.frozen? a = false) (h0 : 0 ≤ x) (h1 : x < 4611686018427387904) :
    Calls Try.prog 15 #[.pointer (some a), .int .i64 1] w fun e w' => e = .returned (.int .i64 (x + 1)) ∧ w.setCell a (.int .i64 (x + 1)) = w' := by
  have hadd := run_call_add (P := Try.prog) Try.func21 (by kernel_rfl) (by kernel_rfl) (by kernel_rfl) .i64 (by kernel_rfl) (y := 1) (s := x + 1) hc hz (by simp [go_sem, IntKind.wrap]; omega)
  go_enter Try.func15, Try.ntmps15
  go_wp2
  go_ret
  exact ⟨rfl, rfl⟩
/-- The count of a gate, and 0 of what is none. -/
def count (L : List Fl) (q : Int) : Nat := if 1 ≤ q ∧ q ≤ 3 then cnt L q else 0
theorem count_out (b : Nat) (L : List Fl) (q : Int) (w : World) (h : ¬ (1 ≤ q ∧ q ≤ 3)) :
    Calls Try.prog 11 #[.pointer (some ⟨b, 0, none⟩), .int .i64 q] w fun r w' => r = .returned (.int .i64 (count L q : Nat)) ∧ w = w' := by
  have hnot : ∀ (x : Bool) (w : World), (Op.unary .not (.bool x)).run Try.prog w = .ok (.bool (!x)) w := fun _ _ => rfl
  have HH : ∀ W, Hid (Calls Try.prog 17 #[.pointer (some ⟨b, 0, none⟩), .int .i64 q] W fun r w' => r = .returned (.bool false) ∧ W = w') := fun W => Lib.hid (by refine (has_is b q W).mono ?_; rintro r w' ⟨rfl, rfl⟩; exact ⟨by simp [h], rfl⟩)
  rw [show count L q = 0 by unfold count; rw [if_neg h]]
  go_enter Try.func11, Try.ntmps11
  go_wp2_with (first | (go_at_call 17; refine (HH _).out.mono ?_; rintro r w' ⟨rfl, rfl⟩))
  go_ret
  exact ⟨rfl, rfl⟩
theorem count_in (b i : Nat) (x : Int) (w : World) (hi : i < 3) (hc : w.cell? ⟨b, i + 1, none⟩ = some (.int .i64 x)) :
    Calls Try.prog 11 #[.pointer (some ⟨b, 0, none⟩), .int .i64 ((i : Int) + 1)] w fun r w' => r = .returned (.int .i64 x) ∧ w = w' := by
  have hnot : ∀ (x : Bool) (w : World), (Op.unary .not (.bool x)).run Try.prog w = .ok (.bool (!x)) w := fun _ _ => rfl
  have HH : ∀ W, Hid (Calls Try.prog 17 #[.pointer (some ⟨b, 0, none⟩), .int .i64 ((i : Int) + 1)] W fun r w' => r = .returned (.bool true) ∧ W = w') := fun W => Lib.hid (by refine (has_is b _ W).mono ?_; rintro r w' ⟨rfl, rfl⟩; exact ⟨by simp; omega, rfl⟩)
  have h3 : i = 0 ∨ i = 1 ∨ i = 2 := by omega
  rcases h3 with rfl | rfl | rfl
  all_goals
    go_enter Try.func11, Try.ntmps11
    go_wp2_with (first | (go_at_call 17; refine (HH _).out.mono ?_; rintro r w' ⟨rfl, rfl⟩) | (go_at_call 18; refine (load_at _ x _ (by go_simp)).mono ?_; rintro r w' ⟨rfl, rfl⟩))
    go_ret
    exact ⟨rfl, rfl⟩
theorem Is.cell {w : World} {base g : Nat} {v : Value} {l L : List Fl} (h : Is w base g v l L) (i : Nat) (hi : i < 3) : w.cell? ⟨g, i + 1, none⟩ = some (.int .i64 (cnt L ((i : Int) + 1) : Nat)) := by
  have h3 : i = 0 ∨ i = 1 ∨ i = 2 := by omega
  refine (blk_cell h.hg (i + 1)).trans ?_
  rcases h3 with rfl | rfl | rfl <;> rfl
theorem count_is (base g : Nat) (v : Value) (l L : List Fl) (q : Int) (w : World) (h : Is w base g v l L) :
    Calls Try.prog 11 #[.pointer (some ⟨g, 0, none⟩), .int .i64 q] w fun r w' => r = .returned (.int .i64 (count L q : Nat)) ∧ w = w' := by
  by_cases hq : 1 ≤ q ∧ q ≤ 3
  · obtain ⟨i, rfl, hi⟩ : ∃ i : Nat, q = (i : Int) + 1 ∧ i < 3 := ⟨(q - 1).toNat, by omega, by omega⟩
    rw [show count L ((i : Int) + 1) = cnt L ((i : Int) + 1) by unfold count; rw [if_pos hq]]
    exact count_in g i _ w hi (h.cell i hi)
  · exact count_out g L q w hq
theorem odd_is (n : Nat) : (((n : Nat) : Int).tmod 2 == 1) = odd n := by
  rw [Int.tmod_eq_emod_of_nonneg (Int.natCast_nonneg _), Bool.eq_iff_iff]
  simp [odd]; omega
set_option maxRecDepth 100000 in
theorem on_is (base g : Nat) (v : Value) (l L : List Fl) (q : Int) (w : World) (h : Is w base g v l L) :
    Calls Try.prog 10 #[.pointer (some ⟨g, 0, none⟩), .int .i64 q] w fun r w' => r = .returned (.bool (odd (count L q))) ∧ w = w' := by
  have HC := Lib.hid (count_is base g v l L q w h)
  rw [← odd_is]
  generalize ((count L q : Nat) : Int) = x at HC ⊢
  go_enter Try.func10, Try.ntmps10
  go_wp2_with (first | (go_at_call 11; refine HC.out.mono ?_; rintro r w' ⟨rfl, rfl⟩))
  go_ret
  exact ⟨rfl, rfl⟩
end Go.Proofs.Ytkhjeglppnibhaa.Flips
