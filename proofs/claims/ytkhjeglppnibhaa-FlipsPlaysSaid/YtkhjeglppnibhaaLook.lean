/- What a look does to a log of flips (chapter 48). -/
import Derived.Test.YtkhjeglppnibhaaFlips
namespace Go.Proofs.Ytkhjeglppnibhaa.Flips
open Go.RowKit Go.Proofs.YtkhjeglppnibhaaW.PrintWords Go.Proofs.YtkhjeglppnibhaaW.PrintLast Go.Proofs.YtkhjeglppnibhaaW.PrintMore
set_option linter.unusedVariables false
set_option linter.unusedSimpArgs false
theorem below_le {B B' : Nat} {w w' : World} (h : Below B w w') (hb : B' ≤ B) : Below B' w w' := ⟨h.os, h.tape, h.output, h.size, fun k hk => h.block k (by omega)⟩
/-- Within a look: the counts of m are told, and the row y tells m'. -/
structure Mid (w W : World) (base g : Nat) (v : Value) (l m m' : List Fl) (y : Value) : Prop where
  is : Is W base g v l (l ++ m)
  keep : KeepBut w W g none
  below : Below base w W
  out : Kd.R kF 32 W w.heap.size (fun _ => True) y m'
  old : g < w.heap.size
  vold : ∀ k, v.ownBlock = some k → k < w.heap.size
theorem Mid.new {w : World} {base g : Nat} {v : Value} {l : List Fl} (h : Is w base g v l l) : Mid w w base g v l [] [] (.slice none 0 0) :=
  ⟨by rw [List.append_nil]; exact h, KeepBut.refl _ _ _, Below.refl _ _, Kd.R_nil _ _ _ _ _, blk_lt h.hg, fun k hk => Kd.R_lt h.hR k hk⟩
theorem Mid.step {w W W1 : World} {base g : Nat} {v y : Value} {l m m' : List Fl} (h : Mid w W base g v l m m' y) (hb : Below W.heap.size W W1) : Mid w W1 base g v l m m' y :=
  ⟨h.is.step hb, h.keep.trans (KeepBut.of_below hb g none) (.inl rfl), h.below.trans (below_le hb (by have := h.is.le; have := blk_lt h.is.hg; omega)), Kd.R_below h.out hb, h.old, h.vold⟩
theorem Mid.apart {w W : World} {base g : Nat} {v y : Value} {l m m' : List Fl} (h : Mid w W base g v l m m' y) : some g ≠ y.ownBlock := by
  intro e
  have := Kd.R_base h.out g e.symm
  have := h.old
  omega
theorem Mid.ge {w W : World} {base g : Nat} {v y : Value} {l m m' : List Fl} (h : Mid w W base g v l m m' y) : base ≤ w.heap.size := by
  have := h.is.le; have := h.old; omega
theorem cnt_one (x : Fl) (g : Int) : cnt [x] g = if x.g = g then 1 else 0 := by
  by_cases h : x.g = g <;> simp [cnt, h]
theorem Mid.count {w W : World} {base g : Nat} {v y : Value} {l m m' : List Fl} (h : Mid w W base g v l m m' y) (i : Nat) (hi : i < 3) (x : Fl) (hx : x.g = (i : Int) + 1) :
    Mid w (W.setCell ⟨g, i + 1, none⟩ (.int .i64 ((cnt (l ++ m) ((i : Int) + 1) : Nat) + 1))) base g v l (m ++ [x]) m' y := by
  refine ⟨⟨?_, Kd.R_far (p := ⟨g, i + 1, none⟩) h.is.hR (fun _ hk => hk) _, h.is.le⟩, h.keep.set_ _ _, h.below.setCell (p := ⟨g, i + 1, none⟩) h.is.le _, ?_, h.old, h.vold⟩
  · have := blk_set h.is.hg (i + 1) (.int .i64 ((cnt (l ++ m) ((i : Int) + 1) : Nat) + 1))
    rw [this]
    have h3 : i = 0 ∨ i = 1 ∨ i = 2 := by omega
    have e : l ++ (m ++ [x]) = (l ++ m) ++ [x] := by simp
    rw [e]
    rcases h3 with rfl | rfl | rfl
    all_goals
      simp only [cnt_append (l ++ m), cnt_one, hx]
      rfl
  · exact Kd.R_mono (Kd.R_far (p := ⟨g, i + 1, none⟩) (Kd.R_far1 h.out rfl h.apart) (fun _ hk => hk.2) _) (fun _ _ => trivial)
theorem Mid.put {w W W1 : World} {base g : Nat} {v y y1 : Value} {l m m' m1 : List Fl} (h : Mid w W base g v l m m' y)
    (ho : Kd.R kF 32 W1 w.heap.size (fun _ => True) y1 m1) (hg : W.grownBy W1 y.ownBlock) : Mid w W1 base g v l m m1 y1 := by
  refine ⟨⟨blk_grown h.is.hg hg h.apart, Kd.R_grown2 h.is.hR rfl hg (fun k hk e => ?_), h.is.le⟩, h.keep.trans (KeepBut.of_grown hg g) (Kd.R_base2 h.out), pw_below_grown h.below _ (Nat.le_trans h.ge h.below.size) hg (fun k hk => Nat.le_trans h.ge (Kd.R_base h.out k hk)), ho, h.old, h.vold⟩
  have := h.vold k e.symm
  have := Kd.R_base h.out k hk
  omega
/-- The end of a look: the row of the log grown, and stored. -/
theorem Mid.end_ {w W W1 : World} {base g : Nat} {v y v1 : Value} {l m : List Fl} (h0 : Is w base g v l l) (h : Mid w W base g v l m m y)
    (ho : Kd.R kF 32 W1 base (fun k => k ≠ g) v1 (l ++ m)) (hB : Below base W W1) (hg : W.grownBy W1 v.ownBlock) (hat : v1.ownBlock = v.ownBlock ∨ ∃ b, v1.ownBlock = some b ∧ W.heap.size ≤ b) :
    Left w (W1.setCell ⟨g, 0, none⟩ v1) base g v v1 (l ++ m) (l ++ m) ∧ Kd.R kF 32 (W1.setCell ⟨g, 0, none⟩ v1) w.heap.size (fun k => some k ≠ v1.ownBlock) y m := by
  have hG := blk_grown h.is.hg hg (Kd.R_ne h.is.hR h.is.hg (by decide))
  have hgw := h.keep.1
  refine ⟨⟨⟨?_, Kd.R_far (p := ⟨g, 0, none⟩) ho (fun _ hk => hk) _, h.is.le⟩, KeepBut.set_ ?_ _ _, ?_, (h.below.trans hB).setCell (p := ⟨g, 0, none⟩) h.is.le _⟩, ?_⟩
  · have := blk_set hG 0 v1
    simpa using this
  · exact ⟨Nat.le_trans h.keep.1 hg.size, fun i hi hne hr => (hg.block i (Nat.lt_of_lt_of_le hi h.keep.1) hr).trans (h.keep.2 i hi hne (by simp))⟩
  · rcases hat with e | ⟨b, e, hb⟩
    · exact .inl e
    · exact .inr ⟨b, e, by omega⟩
  · have ha : ∀ k, y.ownBlock = some k → some k ≠ v1.ownBlock := by
      intro k hk e1
      have h1 := Kd.R_base h.out k hk
      have h2 := Kd.R_lt h.out k hk
      rcases hat with e | ⟨b, e, hb⟩
      · have := h.vold k (e.symm.trans e1.symm); omega
      · have := Option.some.inj (e1.trans e); omega
    have hR1 := Kd.R_grown2 h.out rfl hg (fun k hk e => by
      have := h.vold k hk
      have := Kd.R_base h.out k e.symm
      omega)
    exact Kd.R_reok rfl (Kd.R_far (p := ⟨g, 0, none⟩) (Kd.R_far1 hR1 rfl h.apart) (fun _ hk => hk.2) _) ha
end Go.Proofs.Ytkhjeglppnibhaa.Flips
