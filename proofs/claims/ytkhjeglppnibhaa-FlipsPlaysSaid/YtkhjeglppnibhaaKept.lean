/- What stays beside a log of flips (chapter 48). -/
import Derived.Test.YtkhjeglppnibhaaAll
namespace Go.Proofs.Ytkhjeglppnibhaa.Flips
open Go.RowKit Go.Proofs.YtkhjeglppnibhaaW.PrintWords Go.Proofs.YtkhjeglppnibhaaW.PrintLast Go.Proofs.YtkhjeglppnibhaaW.PrintMore
set_option linter.unusedVariables false
set_option linter.unusedSimpArgs false
/-- Another row of flips, beside the log's. -/
theorem Left.row_ {w w' : World} {base g b : Nat} {v v' y : Value} {l L m : List Fl} {ok : Nat → Prop} (h : Left w w' base g v v' l L) (hy : Kd.R kF 32 w b ok y m) (h1 : some g ≠ y.ownBlock) (h2 : ∀ k, y.ownBlock = some k → some k ≠ v.ownBlock) :
    Kd.R kF 32 w' b ok y m ∧ ∀ k, y.ownBlock = some k → some k ≠ v'.ownBlock := by
  refine ⟨Kd.R_reok rfl (Kd.R_step (Kd.R_tight rfl hy) (fun k hk hlt => h.keep.2 k hlt (fun e => h1 (by rw [← e]; exact hk)) (h2 k hk.symm))) hy.1, fun k hk => ?_⟩
  rcases h.row with e | ⟨b1, e, hb⟩
  · rw [e]; exact h2 k hk
  · rw [e]; intro e2; have := Option.some.inj e2; have := Kd.R_lt hy k hk; omega
/-- A block of another type, beside the log's. -/
theorem Left.blk_ {w w' : World} {base g b t : Nat} {v v' : Value} {l L l0 L0 : List Fl} {cs : Array Value} (h : Left w w' base g v v' l L) (h0 : Is w base g v l0 L0) (hb : w.heap[b]? = some (.cells cs t (0, 0))) (h1 : b ≠ g) (ht : 32 ≠ t) : w'.heap[b]? = some (.cells cs t (0, 0)) :=
  KeepBut.blk h.keep hb h1 (Kd.R_ne h0.hR hb ht)
theorem Left.ge {w w' : World} {base g : Nat} {v v' : Value} {l L : List Fl} (h : Left w w' base g v v' l L) : w.heap.size ≤ w'.heap.size := h.keep.1
/-- The flips of each gate go on and off by turns. -/
def Alt (L : List Fl) : Prop := ∀ i, i < L.length → (rdF L i).on = !odd (cnt (L.take i) (rdF L i).g)
theorem rdF_old (L m : List Fl) (i : Nat) (h : i < L.length) : rdF (L ++ m) i = rdF L i := by simp [rdF, List.getElem?_append_left h]
theorem rdF_last (L : List Fl) (x : Fl) : rdF (L ++ [x]) L.length = x := by simp [rdF]
theorem take_more (L : List Fl) (i : Nat) (h : i < L.length) : L.take (i + 1) = L.take i ++ [rdF L i] := by
  rw [show rdF L i = L[i] by simp [rdF, h], List.take_append_getElem h]
theorem Alt.nil : Alt [] := fun i h => by simp at h
theorem Alt.snoc {L : List Fl} {x : Fl} (h : Alt L) (hx : x.on = !odd (cnt L x.g)) : Alt (L ++ [x]) := by
  intro i hi
  rw [List.length_append, List.length_singleton] at hi
  rcases Nat.lt_or_ge i L.length with hlt | hge
  · rw [rdF_old L _ i hlt, List.take_append_of_le_length (Nat.le_of_lt hlt)]
    exact h i hlt
  · have : i = L.length := by omega
    subst this
    rw [rdF_last, List.take_append_of_le_length (Nat.le_refl _), List.take_length]
    exact hx
theorem Alt.news {L : List Fl} (h : Alt L) (o : Int → Bool) (t : Int) (j : Nat) : Alt (L ++ news L o t j) := by
  induction j with
  | zero => simpa [Flips.news] using h
  | succ j ih =>
    rw [Flips.news]
    split
    · rename_i c
      rw [← List.append_assoc]
      refine ih.snoc ?_
      show o _ = !odd (cnt (L ++ Flips.news L o t j) ((j + 1 : Nat) : Int))
      rw [cnt_append, news_cnt L o t j _ (by omega), Nat.add_zero]
      revert c
      cases o ((j + 1 : Nat) : Int) <;> cases odd (cnt L ((j + 1 : Nat) : Int)) <;> simp
    · simpa using ih
theorem odd_succ (n : Nat) : odd (n + 1) = !odd n := by
  unfold odd
  rw [Bool.eq_iff_iff]
  simp; omega
/-- A log, and what is known of it. -/
def Stand (w W : World) (g : Nat) (N : Nat) : Prop := ∃ v L, Is W w.heap.size g v L L ∧ Below w.heap.size w W ∧ L.length ≤ N ∧ Alt L
theorem Stand.step {w W W1 : World} {g N : Nat} (h : Stand w W g N) (hb : Below W.heap.size W W1) : Stand w W1 g N := by
  obtain ⟨v, L, h1, h2, h3⟩ := h
  exact ⟨v, L, h1.step hb, h2.trans (below_le hb h2.size), h3⟩
theorem Stand.below {w W : World} {g N : Nat} (h : Stand w W g N) : Below w.heap.size w W := by
  obtain ⟨v, L, h1, h2, h3⟩ := h
  exact h2
theorem stand_look (w : World) (g N : Nat) (t : Int) (A : Option Addr) (n c : Nat) (o : Int → Bool) (W : World) (h : Stand w W g N) (hN : N ≤ 1000) (hO : Opens W g w.heap.size A n c o) :
    Calls Try.prog 8 #[.pointer (some ⟨g, 0, none⟩), .slice A n c, .int .i64 t] W fun e w' => ∃ y, e = .returned y ∧ Stand w w' g (N + 3) := by
  obtain ⟨v, L, h1, h2, h3, h4⟩ := h
  refine (look g w.heap.size v L t A n c o W h1 (by omega) hO).mono ?_
  rintro e w' ⟨y, v', rfl, hL, _⟩
  exact ⟨y, rfl, v', _, hL.is, h2.trans hL.below, by have := news_len L o t 3; rw [List.length_append]; omega, h4.news o t 3⟩
/-- All flips, told in a row of their own. -/
structure AllTold (w W : World) (g : Nat) (v y : Value) (L : List Fl) : Prop where
  is : Is W w.heap.size g v L L
  row : Kd.R kF 32 W w.heap.size (fun _ => True) y L
  below : Below w.heap.size w W
theorem AllTold.step {w W W1 : World} {g : Nat} {v y : Value} {L : List Fl} (h : AllTold w W g v y L) (hb : Below W.heap.size W W1) : AllTold w W1 g v y L :=
  ⟨h.is.step hb, Kd.R_below h.row hb, h.below.trans (below_le hb h.below.size)⟩
theorem told_all (w : World) (g N : Nat) (W : World) (h : Stand w W g N) (hN : N ≤ 1000) :
    Calls Try.prog 9 #[.pointer (some ⟨g, 0, none⟩)] W fun e w' => ∃ y v L, e = .returned y ∧ AllTold w w' g v y L ∧ L.length ≤ N ∧ Alt L := by
  obtain ⟨v, L, h1, h2, h3, h4⟩ := h
  refine (all_is g w.heap.size v L L W h1 (by omega)).mono ?_
  rintro e w' ⟨y, rfl, hR, hB⟩
  exact ⟨y, v, L, rfl, ⟨h1.step hB, Kd.R_lower hR h2.size, h2.trans (below_le hB h2.size)⟩, h3, h4⟩
end Go.Proofs.Ytkhjeglppnibhaa.Flips
