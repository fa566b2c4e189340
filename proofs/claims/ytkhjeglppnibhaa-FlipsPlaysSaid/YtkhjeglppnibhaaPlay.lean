/- A log of flips beside arrays and a row of the caller's (chapter 48). -/
import Derived.Test.YtkhjeglppnibhaaKept
namespace Go.Proofs.Ytkhjeglppnibhaa.Flips
open Go.RowKit Go.Proofs.YtkhjeglppnibhaaW.PrintWords Go.Proofs.YtkhjeglppnibhaaW.PrintLast Go.Proofs.YtkhjeglppnibhaaW.PrintMore
set_option linter.unusedVariables false
set_option linter.unusedSimpArgs false
def onC (M : List Fl) : Array Value := #[.bool false, .bool (odd (cnt M 1)), .bool (odd (cnt M 2)), .bool (odd (cnt M 3))]
def ctC (M : List Fl) : Array Value := #[.int .i64 0, .int .i64 (cnt M 1 : Nat), .int .i64 (cnt M 2 : Nat), .int .i64 (cnt M 3 : Nat)]
def ltC (M : List Fl) : Array Value := #[.int .i64 0, .int .i64 (last M 1), .int .i64 (last M 2), .int .i64 (last M 3)]
theorem onC_get (M : List Fl) (i : Nat) (h : i < 3) : (onC M)[i + 1]? = some (.bool (odd (cnt M ((i : Int) + 1)))) := by
  have h3 : i = 0 ∨ i = 1 ∨ i = 2 := by omega
  rcases h3 with rfl | rfl | rfl <;> rfl
theorem ctC_get (M : List Fl) (i : Nat) (h : i < 3) : (ctC M)[i + 1]? = some (.int .i64 (cnt M ((i : Int) + 1) : Nat)) := by
  have h3 : i = 0 ∨ i = 1 ∨ i = 2 := by omega
  rcases h3 with rfl | rfl | rfl <;> rfl
theorem ltC_get (M : List Fl) (i : Nat) (h : i < 3) : (ltC M)[i + 1]? = some (.int .i64 (last M ((i : Int) + 1))) := by
  have h3 : i = 0 ∨ i = 1 ∨ i = 2 := by omega
  rcases h3 with rfl | rfl | rfl <;> rfl
theorem onC_set (M : List Fl) (i : Nat) (h : i < 3) (x : Fl) (hx : x.g = (i : Int) + 1) : (onC M).setIfInBounds (i + 1) (.bool (!odd (cnt M ((i : Int) + 1)))) = onC (M ++ [x]) := by
  have h3 : i = 0 ∨ i = 1 ∨ i = 2 := by omega
  rcases h3 with rfl | rfl | rfl
  all_goals
    unfold onC
    simp only [cnt_append M, cnt_one, hx, ← odd_succ]
    rfl
theorem ctC_set (M : List Fl) (i : Nat) (h : i < 3) (x : Fl) (hx : x.g = (i : Int) + 1) : (ctC M).setIfInBounds (i + 1) (.int .i64 ((cnt M ((i : Int) + 1) : Nat) + 1)) = ctC (M ++ [x]) := by
  have h3 : i = 0 ∨ i = 1 ∨ i = 2 := by omega
  rcases h3 with rfl | rfl | rfl
  all_goals
    unfold ctC
    simp only [cnt_append M, cnt_one, hx]
    rfl
theorem ltC_set (M : List Fl) (i : Nat) (h : i < 3) (x : Fl) (hx : x.g = (i : Int) + 1) : (ltC M).setIfInBounds (i + 1) (.int .i64 x.at_) = ltC (M ++ [x]) := by
  have h3 : i = 0 ∨ i = 1 ∨ i = 2 := by omega
  rcases h3 with rfl | rfl | rfl
  all_goals
    unfold ltC
    simp only [last_snoc M, hx]
    rfl
theorem info_b : (Try.prog.info? 4).map (fun i => (i.zero, i.size, i.bytes)) = some (some (.bool false), 1, 1) := by kernel_rfl
theorem info_i : (Try.prog.info? 3).map (fun i => (i.zero, i.size, i.bytes)) = some (some (.int .i64 0), 1, 8) := by kernel_rfl
theorem zeros_eq (z : Value) (n : Nat) : madeCells #[z] n = (List.replicate n z).toArray := by
  apply Array.ext'
  apply List.ext_getElem?
  intro i
  simp [madeCells, List.getElem?_replicate]
  by_cases h : i < n <;> simp [h, Nat.mod_one]
theorem make_b (w : World) : (Instr.makeSlice 37 (.int .i64 4) (.int .i64 4)).run Try.prog w = .ok (.slice (some ⟨w.heap.size, 0, none⟩) 4 4) (w.alloc (.cells (onC []) 4)) := by
  obtain ⟨i, hi, he⟩ := Option.map_eq_some_iff.1 info_b
  injection he with h1 he
  injection he with h2 h3
  have := run_makeSlice (P := Try.prog) (w := w) 37 4 i (.bool false) (by kernel_rfl) hi h1 .i64 .i64 4 4 (by omega) (by omega) (by rw [h2]; omega) (by rw [h3]; omega) (by omega)
  rw [h2] at this
  rw [this, show madeCells (Value.bool false).cells (Int.toNat 4 * 1) = onC [] from (zeros_eq (.bool false) 4).trans rfl]
  rfl
theorem make_i (w : World) : (Instr.makeSlice 36 (.int .i64 4) (.int .i64 4)).run Try.prog w = .ok (.slice (some ⟨w.heap.size, 0, none⟩) 4 4) (w.alloc (.cells (ctC []) 3)) := by
  obtain ⟨i, hi, he⟩ := Option.map_eq_some_iff.1 info_i
  injection he with h1 he
  injection he with h2 h3
  have := run_makeSlice (P := Try.prog) (w := w) 36 3 i (.int .i64 0) (by kernel_rfl) hi h1 .i64 .i64 4 4 (by omega) (by omega) (by rw [h2]; omega) (by rw [h3]; omega) (by omega)
  rw [h2] at this
  rw [this, show madeCells (Value.int .i64 0).cells (Int.toNat 4 * 1) = ctC [] from (zeros_eq (.int .i64 0) 4).trans rfl]
  rfl
theorem ct_lt : ctC [] = ltC [] := rfl
structure Play (w W : World) (g bo bc bl : Nat) (v va : Value) (L Mo Mc Ml Ma : List Fl) : Prop where
  is : Is W w.heap.size g v L L
  ho : W.heap[bo]? = some (.cells (onC Mo) 4 (0, 0))
  hc : W.heap[bc]? = some (.cells (ctC Mc) 3 (0, 0))
  hl : W.heap[bl]? = some (.cells (ltC Ml) 3 (0, 0))
  ne : bc ≠ bl
  ages : w.heap.size ≤ bo ∧ w.heap.size ≤ bc ∧ w.heap.size ≤ bl
  row : Kd.R kF 32 W w.heap.size (fun k => some k ≠ v.ownBlock) va Ma
  below : Below w.heap.size w W
def Got (w W : World) (v va y : Value) (N : List Fl) : Prop := Kd.R kF 32 W w.heap.size (fun k => some k ≠ v.ownBlock ∧ some k ≠ va.ownBlock) y N
theorem Got.step {w W W1 : World} {v va y : Value} {N : List Fl} (h : Got w W v va y N) (hb : Below W.heap.size W W1) : Got w W1 v va y N := Kd.R_below h hb
theorem Is.set_ {W : World} {base g b t j : Nat} {v u : Value} {L M : List Fl} {cs : Array Value} (h : Is W base g v L M) (hb : W.heap[b]? = some (.cells cs t (0, 0))) (h1 : t ≠ 54) (h2 : t ≠ 32) : Is (W.setCell ⟨b, j, none⟩ u) base g v L M :=
  ⟨blk_far (p := ⟨b, j, none⟩) h.hg (fun e => blk_ne hb h.hg h1 e.symm) u, Kd.R_set h.hR hb (fun q hq => by simp [kF] at hq; rcases hq with rfl | hq; exact fun e => h2 e.symm; cases hq) j u, h.le⟩
theorem row_set {W : World} {base b t j : Nat} {ok : Nat → Prop} {v u : Value} {L : List Fl} {cs : Array Value} (h : Kd.R kF 32 W base ok v L) (hb : W.heap[b]? = some (.cells cs t (0, 0))) (h2 : t ≠ 32) : Kd.R kF 32 (W.setCell ⟨b, j, none⟩ u) base ok v L :=
  Kd.R_set h hb (fun q hq => by simp [kF] at hq; rcases hq with rfl | hq; exact fun e => h2 e.symm; cases hq) j u
section
variable {w W W1 : World} {g bo bc bl : Nat} {v va y : Value} {L Mo Mc Ml Ma N : List Fl}
theorem Play.step (h : Play w W g bo bc bl v va L Mo Mc Ml Ma) (hb : Below W.heap.size W W1) : Play w W1 g bo bc bl v va L Mo Mc Ml Ma :=
  ⟨h.is.step hb, blk_below h.ho hb, blk_below h.hc hb, blk_below h.hl hb, h.ne, h.ages, Kd.R_below h.row hb, h.below.trans (below_le hb h.below.size)⟩
theorem Play.setO (h : Play w W g bo bc bl v va L Mo Mc Ml Ma) (i : Nat) (hi : i < 3) (x : Fl) (hx : x.g = (i : Int) + 1) (b : Bool) (hb : b = !odd (cnt Mo ((i : Int) + 1))) : Play w (W.setCell ⟨bo, i + 1, none⟩ (.bool b)) g bo bc bl v va L (Mo ++ [x]) Mc Ml Ma := by
  subst hb
  refine ⟨h.is.set_ h.ho (by decide) (by decide), ?_, blk_far (p := ⟨bo, i + 1, none⟩) h.hc (blk_ne h.hc h.ho (by decide)) _, blk_far (p := ⟨bo, i + 1, none⟩) h.hl (blk_ne h.hl h.ho (by decide)) _, h.ne, h.ages, row_set h.row h.ho (by decide), h.below.setCell (p := ⟨bo, i + 1, none⟩) h.ages.1 _⟩
  rw [blk_set h.ho, onC_set Mo i hi x hx]
theorem Play.setC (h : Play w W g bo bc bl v va L Mo Mc Ml Ma) (i : Nat) (hi : i < 3) (x : Fl) (hx : x.g = (i : Int) + 1) : Play w (W.setCell ⟨bc, i + 1, none⟩ (.int .i64 ((cnt Mc ((i : Int) + 1) : Nat) + 1))) g bo bc bl v va L Mo (Mc ++ [x]) Ml Ma := by
  refine ⟨h.is.set_ h.hc (by decide) (by decide), blk_far (p := ⟨bc, i + 1, none⟩) h.ho (blk_ne h.ho h.hc (by decide)) _, ?_, blk_far (p := ⟨bc, i + 1, none⟩) h.hl (fun e => h.ne e.symm) _, h.ne, h.ages, row_set h.row h.hc (by decide), h.below.setCell (p := ⟨bc, i + 1, none⟩) h.ages.2.1 _⟩
  rw [blk_set h.hc, ctC_set Mc i hi x hx]
theorem Play.setL (h : Play w W g bo bc bl v va L Mo Mc Ml Ma) (i : Nat) (hi : i < 3) (x : Fl) (hx : x.g = (i : Int) + 1) : Play w (W.setCell ⟨bl, i + 1, none⟩ (.int .i64 x.at_)) g bo bc bl v va L Mo Mc (Ml ++ [x]) Ma := by
  refine ⟨h.is.set_ h.hl (by decide) (by decide), blk_far (p := ⟨bl, i + 1, none⟩) h.ho (blk_ne h.ho h.hl (by decide)) _, blk_far (p := ⟨bl, i + 1, none⟩) h.hc h.ne _, ?_, h.ne, h.ages, row_set h.row h.hl (by decide), h.below.setCell (p := ⟨bl, i + 1, none⟩) h.ages.2.2 _⟩
  rw [blk_set h.hl, ltC_set Ml i hi x hx]
theorem Got.setO (h : Play w W g bo bc bl v va L Mo Mc Ml Ma) (hy : Got w W v va y N) (j : Nat) (u : Value) : Got w (W.setCell ⟨bo, j, none⟩ u) v va y N := row_set hy h.ho (by decide)
theorem Got.setC (h : Play w W g bo bc bl v va L Mo Mc Ml Ma) (hy : Got w W v va y N) (j : Nat) (u : Value) : Got w (W.setCell ⟨bc, j, none⟩ u) v va y N := row_set hy h.hc (by decide)
theorem Got.setL (h : Play w W g bo bc bl v va L Mo Mc Ml Ma) (hy : Got w W v va y N) (j : Nat) (u : Value) : Got w (W.setCell ⟨bl, j, none⟩ u) v va y N := row_set hy h.hl (by decide)
/-- The caller's row has grown. -/
theorem Play.put {va1 : Value} {Ma1 : List Fl} (h : Play w W g bo bc bl v va L Mo Mc Ml Ma) (hr : Kd.R kF 32 W1 w.heap.size (fun k => some k ≠ v.ownBlock) va1 Ma1) (hB : Below w.heap.size w W1) (hg : W.grownBy W1 va.ownBlock) : Play w W1 g bo bc bl v va1 L Mo Mc Ml Ma1 :=
  ⟨⟨blk_grown h.is.hg hg (Kd.R_ne h.row h.is.hg (by decide)), Kd.R_grown2 h.is.hR rfl hg (fun k hk => h.row.1 k hk), h.is.le⟩, blk_grown h.ho hg (Kd.R_ne h.row h.ho (by decide)), blk_grown h.hc hg (Kd.R_ne h.row h.hc (by decide)), blk_grown h.hl hg (Kd.R_ne h.row h.hl (by decide)), h.ne, h.ages, hr, hB⟩
theorem Got.put {va1 : Value} (hy : Got w W v va y N) (hg : W.grownBy W1 va.ownBlock) (hat : va1.ownBlock = va.ownBlock ∨ ∃ b, va1.ownBlock = some b ∧ W.heap.size ≤ b) : Got w W1 v va1 y N := by
  refine Kd.R_reok rfl (Kd.R_grown2 hy rfl hg (fun k hk e => (hy.1 k e.symm).2 hk.symm)) (fun k hk => ⟨(hy.1 k hk).1, fun e => ?_⟩)
  rcases hat with e1 | ⟨b, e1, hb⟩
  · exact (hy.1 k hk).2 (e.trans e1)
  · have := Option.some.inj (e.trans e1)
    have := Kd.R_lt hy k hk
    omega
/-- A look, beside the caller's arrays. -/
theorem Play.look {v' : Value} {L' : List Fl} (h : Play w W g bo bc bl v va L Mo Mc Ml Ma) (hL : Left W W1 w.heap.size g v v' L' L') (hy : Kd.R kF 32 W1 W.heap.size (fun k => some k ≠ v'.ownBlock) y N) : Play w W1 g bo bc bl v' va L' Mo Mc Ml Ma ∧ Got w W1 v' va y N := by
  obtain ⟨hr, ha⟩ := hL.row_ h.row (Kd.R_ne h.row h.is.hg (by decide)) h.row.1
  refine ⟨⟨hL.is, hL.blk_ h.is h.ho (blk_ne h.ho h.is.hg (by decide)) (by decide), hL.blk_ h.is h.hc (blk_ne h.hc h.is.hg (by decide)) (by decide), hL.blk_ h.is h.hl (blk_ne h.hl h.is.hg (by decide)) (by decide), h.ne, h.ages, Kd.R_reok rfl hr ha, h.below.trans hL.below⟩, ?_⟩
  refine Kd.R_reok rfl (Kd.R_lower hy h.below.size) (fun k hk => ⟨hy.1 k hk, fun e => ?_⟩)
  have := Kd.R_base hy k hk
  have := Kd.R_lt h.row k e.symm
  omega
end
theorem Play.new {w W : World} {g : Nat} (hI : Is W w.heap.size g (.slice none 0 0) [] []) (hB : Below w.heap.size w W) :
    Play w (((W.alloc (.cells (onC []) 4)).alloc (.cells (ctC []) 3)).alloc (.cells (ctC []) 3)) g W.heap.size (W.heap.size + 1) (W.heap.size + 2) (.slice none 0 0) (.slice none 0 0) [] [] [] [] [] := by
  have b3 := below_alloc (below_alloc (below_alloc (Below.refl W.heap.size W) (.cells (onC []) 4)) (.cells (ctC []) 3)) (.cells (ctC []) 3)
  have s1 : (W.alloc (.cells (onC []) 4)).heap.size = W.heap.size + 1 := by simp
  have s2 : ((W.alloc (.cells (onC []) 4)).alloc (.cells (ctC []) 3)).heap.size = W.heap.size + 2 := by simp
  have hs := hB.size
  refine ⟨hI.step b3, blk_alloc (blk_alloc (blk_new _ _) _) _, ?_, ?_, by omega, ⟨by omega, by omega, by omega⟩, Kd.R_nil _ _ _ _ _, hB.trans (below_le b3 hs)⟩
  · have := blk_new (W.alloc (.cells (onC []) 4)) (.cells (ctC []) 3)
    rw [s1] at this
    exact blk_alloc this _
  · have := blk_new ((W.alloc (.cells (onC []) 4)).alloc (.cells (ctC []) 3)) (.cells (ctC []) 3)
    rw [s2] at this
    exact this
/-- What a look finds, gate by gate. -/
theorem news_pre (L : List Fl) (o : Int → Bool) (t : Int) (j : Nat) (h : j ≤ 3) : ∃ s, news L o t 3 = news L o t j ++ s := by
  have h4 : j = 0 ∨ j = 1 ∨ j = 2 ∨ j = 3 := by omega
  rcases h4 with rfl | rfl | rfl | rfl
  · exact ⟨news L o t 3, rfl⟩
  · exact ⟨_, by rw [news, news, List.append_assoc]⟩
  · exact ⟨_, by rw [news]⟩
  · exact ⟨[], by simp⟩
theorem news_other (L : List Fl) (o : Int → Bool) (t : Int) (j : Nat) (q : Int) (h : q ≠ ((j + 1 : Nat) : Int)) : cnt (news L o t (j + 1)) q = cnt (news L o t j) q := by
  rw [news, cnt_append]
  split
  · rw [cnt_one, if_neg (fun e => h e.symm)]; rfl
  · rfl
theorem news_all (L : List Fl) (o : Int → Bool) (t : Int) (j : Nat) (h : j < 3) : cnt (news L o t 3) ((j : Int) + 1) = cnt (news L o t (j + 1)) ((j : Int) + 1) := by
  have h3 : j = 0 ∨ j = 1 ∨ j = 2 := by omega
  rcases h3 with rfl | rfl | rfl
  · rw [news_other L o t 2 _ (by decide), news_other L o t 1 _ (by decide)]
  · rw [news_other L o t 2 _ (by decide)]
  · rfl
theorem news_at (L : List Fl) (o : Int → Bool) (t : Int) (j : Nat) (h : j < 3) (x : Fl) (hn : news L o t (j + 1) = news L o t j ++ [x]) : (news L o t j).length < (news L o t 3).length ∧ rdF (news L o t 3) (news L o t j).length = x := by
  obtain ⟨s, hs⟩ := news_pre L o t (j + 1) h
  rw [hs, hn]
  constructor
  · simp
  · rw [rdF_old _ _ _ (by simp), rdF_last]
end Go.Proofs.Ytkhjeglppnibhaa.Flips
