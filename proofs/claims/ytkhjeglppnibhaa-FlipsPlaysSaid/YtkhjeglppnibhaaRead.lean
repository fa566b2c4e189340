/- What an argument that can be read as data holds, kind by kind: from the row's reading to the print's words. -/
import Derived.Test.YtkhjeglppnibhaaWMore
import Derived.Deep.Slices
import Derived.ChangeArms
import Derived.ShutString
import Derived.ProofKit
import Derived.SizedLaws
namespace Go.Proofs.Ytkhjeglppnibhaa.Read
open Go.RowKit Go.Proofs.YtkhjeglppnibhaaW.PrintWords Go.Proofs.YtkhjeglppnibhaaW.PrintLast Go.Proofs.YtkhjeglppnibhaaW.PrintMore
set_option linter.unusedVariables false
set_option linter.unusedSimpArgs false

/-- Whatever reads as a value of type t is told by kind d, and is good. -/
structure FT {α : Type} (P : Program) (t : TypeId) (d : Kd α) (G : α → Prop) : Prop where
  sz : d.sz = P.cellsOf t
  go : ∀ {H : Type} {enc : TypeId × Value → H} {w : World} {base : Nat} {spare : Nat → Bool} {held : Bool} {fuel : Nat} {cs : List Value} {x : DataW H × List MemPlace}, DataW.trod enc P w base spare held fuel t cs = some x → ∃ v, d.K w v cs ∧ G v

theorem FT.int {P : Program} {t : TypeId} {k : IntKind} (ht : P.underlying t = some (.int k)) (hs : P.cellsOf t = 1) : FT P t (Kd.int k) (fun n => (Lit.int k n).wf = true) := by
  refine ⟨hs.symm, fun {H enc w base spare held fuel cs x} h => ?_⟩
  obtain ⟨m, rfl, _, hw⟩ := DataW.trod_int ht h
  exact ⟨m, rfl, hw⟩
theorem FT.bool {P : Program} {t : TypeId} (ht : P.underlying t = some .bool) (hs : P.cellsOf t = 1) : FT P t Kd.bool (fun _ => True) := by
  refine ⟨hs.symm, fun {H enc w base spare held fuel cs x} h => ?_⟩
  obtain ⟨b, rfl, _⟩ := DataW.trod_bool ht h
  exact ⟨b, rfl, trivial⟩
theorem add_add (a : Addr) (m i : Nat) : (a.add m).add i = a.add (m + i) := by
  unfold Addr.add
  by_cases h1 : m = 0 <;> by_cases h2 : i = 0 <;> simp [h1, h2, Nat.add_assoc]
theorem row_of_trod {α : Type} {P : Program} {t e : TypeId} {d : Kd α} {G : α → Prop} (ht : P.underlying t = some (.slice e)) (f : FT P e d G)
    {H : Type} {enc : TypeId × Value → H} {w : World} {base : Nat} {spare : Nat → Bool} {held : Bool} {fuel : Nat} {cs : List Value} {x : DataW H × List MemPlace} (h : DataW.trod enc P w base spare held fuel t cs = some x) :
    ∃ l A c, cs = [.slice A l.length c] ∧ l.length ≤ c ∧ d.C w A l.length l ∧ l.length ≤ maxLen ∧ ∀ v ∈ l, G v := by
  rcases Deep.open_slice ht h with ⟨rfl, _⟩ | ⟨a, len, cap, m, n, D, Pl, rfl, hb, hl, hm, hmm, _, hx⟩
  · exact ⟨[], none, 0, rfl, Nat.le_refl _, ⟨rfl, by simp, fun h0 => absurd h0 (by simp)⟩, by simp, by simp⟩
  · have hle : len ≤ m := by rw [hmm]; split <;> omega
    have hv : ∀ i, i < len → ∃ v, d.K w v ((w.cells? base (a.add (i * P.cellsOf e)) (P.cellsOf e)).getD []) ∧ G v := fun i hi => by
      obtain ⟨cs', h1, h2⟩ := hx i (by omega)
      obtain ⟨v, hk, hg⟩ := f.go h2
      exact ⟨v, by rw [h1]; exact hk, hg⟩
    have hex : ∀ q, q ≤ len → ∃ l : List α, l.length = q ∧ ∀ i v, l[i]? = some v → d.K w v ((w.cells? base (a.add (i * P.cellsOf e)) (P.cellsOf e)).getD []) ∧ G v := by
      intro q
      induction q with
      | zero => intro _; exact ⟨[], rfl, fun i v h => by simp at h⟩
      | succ q ih =>
        intro hq
        obtain ⟨l, hl1, hl2⟩ := ih (by omega)
        obtain ⟨v, hk, hg⟩ := hv q (by omega)
        refine ⟨l ++ [v], by simp [hl1], fun i u hu => ?_⟩
        rcases Nat.lt_or_ge i l.length with hi | hi
        · rw [List.getElem?_append_left hi] at hu; exact hl2 i u hu
        · have : i = l.length := by
            have := (List.getElem?_eq_some_iff.1 hu).1
            simp at this; omega
          subst this
          simp at hu; subst hu
          rw [hl1]; exact ⟨hk, hg⟩
    obtain ⟨l, hll, hlp⟩ := hex len (Nat.le_refl _)
    have hb63 : len ≤ 9223372036854775807 := Nat.le_trans hl (Nat.le_trans hm (by unfold maxLen; omega))
    refine ⟨l, some a, cap, by rw [hll], by rw [hll]; exact hl, ⟨rfl, by rw [hll]; exact hb63, fun _ => ⟨a, rfl, fun j p hj => ?_⟩⟩, by rw [hll]; omega, fun v hvm => ?_⟩
    · have hjl : j < len := by rw [← hll]; exact (List.getElem?_eq_some_iff.1 hj).1
      obtain ⟨cs', h1, _⟩ := hx j (by omega)
      have hk := (hlp j p hj).1
      rw [h1] at hk
      have hk : d.K w p cs' := hk
      obtain ⟨_, hlen, hcell⟩ := World.cells?_some h1
      refine ⟨cs', by rw [d.K_len hk], hk, fun i u hu => ?_⟩
      have hi : i < P.cellsOf e := by rw [← hlen]; exact (List.getElem?_eq_some_iff.1 hu).1
      rw [f.sz]
      have := hcell i hi
      rw [hu] at this
      rw [← this]
      rw [add_add]
    · obtain ⟨i, hi, rfl⟩ := List.mem_iff_getElem.1 hvm
      exact (hlp i _ (List.getElem?_eq_getElem hi)).2
theorem FT.slice {α : Type} {P : Program} {t e : TypeId} {d : Kd α} {G : α → Prop} (ht : P.underlying t = some (.slice e)) (hs : P.cellsOf t = 1) (f : FT P e d G) : FT P t (Kd.slice e d) (fun l => l.length ≤ maxLen ∧ ∀ v ∈ l, G v) := by
  refine ⟨hs.symm, fun h => ?_⟩
  obtain ⟨l, A, c, rfl, hl, hC, hg⟩ := row_of_trod ht f h
  exact ⟨l, ⟨A, c, rfl, hl, hC⟩, hg⟩
/-- The cells from o on: one more field. -/
theorem pair_cells {α β : Type} {a : Kd α} {b : Kd β} {w : World} {x : α} {y : β} {cs : List Value} {o s : Nat} (ha : a.K w x ((cs.drop o).take s)) (hb : b.K w y (cs.drop (o + s))) : (Kd.pair a b).K w (x, y) (cs.drop o) :=
  ⟨(cs.drop o).take s, cs.drop (o + s), by rw [← List.drop_drop, List.take_append_drop], ha, hb⟩
theorem last_cells {α : Type} {a : Kd α} {w : World} {x : α} {cs : List Value} {o s : Nat} (hl : cs.length = o + s) (ha : a.K w x ((cs.drop o).take s)) : a.K w x (cs.drop o) := by
  rwa [List.take_of_length_le (by rw [List.length_drop]; omega)] at ha
/-- A field of a struct that reads. -/
theorem field_of {H : Type} {enc : TypeId × Value → H} {P : Program} {w : World} {base : Nat} {spare : Nat → Bool} {held : Bool} {fs : Array Field} {cs : List Value} {xs : List (DataW H × List MemPlace)} {n : Nat}
    (h : ∀ (i : Nat) (f : Field), fs[i]? = some f → DataW.trod enc P w base spare held n f.type ((cs.drop f.offset).take (P.cellsOf f.type)) = xs[i]?) (hl : xs.length = fs.size)
    {α : Type} {d : Kd α} {G : α → Prop} (i t o : Nat) (hf : (fs[i]?).map (fun f => (f.type, f.offset)) = some (t, o)) (f : FT P t d G) : ∃ v, d.K w v ((cs.drop o).take d.sz) ∧ G v := by
  obtain ⟨f0, hf0, e⟩ := Option.map_eq_some_iff.1 hf
  obtain ⟨rfl, rfl⟩ := Prod.mk.inj e
  have hi : i < xs.length := by
    rw [hl]; exact (Array.getElem?_eq_some_iff.1 hf0).1
  have h2 := h i f0 hf0
  rw [List.getElem?_eq_getElem hi] at h2
  rw [f.sz]
  exact f.go h2
/-- An argument that is a slice. -/
theorem arg_row {α : Type} {P : Program} {t e : TypeId} {d : Kd α} {G : α → Prop} (ht : P.underlying t = some (.slice e)) (f : FT P e d G) {H : Type} {enc : TypeId × Value → H} {w : World} {base : Nat} {spare : Nat → Bool} {held : Bool}
    {A : Option Addr} {n c : Nat} {x : DataW H} {ps : List MemPlace} (h : DataW.Trod enc P w base spare held t (.slice A n c) x ps) :
    ∃ l : List α, n = l.length ∧ d.C w A l.length l ∧ l.length ≤ c ∧ l.length ≤ maxLen ∧ ∀ v ∈ l, G v := by
  obtain ⟨fuel, hf⟩ := h
  obtain ⟨l, A', c', he, hl, hC, hm, hg⟩ := row_of_trod ht f hf
  simp [Value.cells] at he
  obtain ⟨rfl, rfl, rfl⟩ := he
  exact ⟨l, rfl, hC, hl, hm, hg⟩
/-- No part of what was read weighs more than can be reached. -/
def SB {H : Type} (P : Program) (t : TypeId) (d : DataW H) : Prop := ∀ n ∈ DataW.weights P t d, n ≤ reachBytes
/-- The same as FT, with the weights. -/
structure FZ {α : Type} (P : Program) (t : TypeId) (d : Kd α) (G : α → Prop) : Prop where
  sz : d.sz = P.cellsOf t
  go : ∀ {H : Type} {enc : TypeId × Value → H} {w : World} {base : Nat} {spare : Nat → Bool} {held : Bool} {fuel : Nat} {cs : List Value} {x : DataW H × List MemPlace}, DataW.trod enc P w base spare held fuel t cs = some x → SB P t x.1 → ∃ v, d.K w v cs ∧ G v
theorem FZ.of {α : Type} {P : Program} {t : TypeId} {d : Kd α} {G : α → Prop} (f : FT P t d G) : FZ P t d G := ⟨f.sz, fun h _ => f.go h⟩
theorem weights_all {H : Type} {P : Program} {e : TypeId} {d : DataW H} : ∀ {ds : List (DataW H)}, d ∈ ds → ∀ n ∈ DataW.weights P e d, n ∈ DataW.weightsAll P e ds
  | d0 :: ds, hd, n, hn => by
    simp only [DataW.weightsAll, List.mem_append]
    rcases List.mem_cons.1 hd with rfl | hd
    · exact .inl hn
    · exact .inr (weights_all hd n hn)
theorem row_of_trodZ {α : Type} {P : Program} {t e : TypeId} {d : Kd α} {G : α → Prop} (ht : P.underlying t = some (.slice e)) (f : FZ P e d G)
    {H : Type} {enc : TypeId × Value → H} {w : World} {base : Nat} {spare : Nat → Bool} {held : Bool} {fuel : Nat} {cs : List Value} {x : DataW H × List MemPlace} (h : DataW.trod enc P w base spare held fuel t cs = some x) (hS : SB P t x.1) :
    ∃ l A c, cs = [.slice A l.length c] ∧ l.length ≤ c ∧ d.C w A l.length l ∧ l.length ≤ maxLen ∧ l.length * P.bytesOf e ≤ reachBytes ∧ ∀ v ∈ l, G v := by
  rcases Deep.open_slice ht h with ⟨rfl, _⟩ | ⟨a, len, cap, m, n, D, Pl, rfl, hb, hl, hm, hmm, rfl, hx⟩
  · exact ⟨[], none, 0, rfl, Nat.le_refl _, ⟨rfl, by simp, fun h0 => absurd h0 (by simp)⟩, by simp, by simp, by simp⟩
  · have hle : len ≤ m := by rw [hmm]; split <;> omega
    have hw : ((List.range len).map D).length * P.bytesOf e ≤ reachBytes ∧ ∀ i, i < len → SB P e (D i) := by
      have hS' : ∀ k ∈ DataW.weights P t (.slice ((List.range len).map D) ((List.range (m - len)).map fun j => D (len + j))), k ≤ reachBytes := hS
      simp only [DataW.weights, ht, List.mem_cons, List.mem_append] at hS'
      refine ⟨Nat.le_trans (Nat.mul_le_mul_right _ (by simp)) (hS' _ (.inl rfl)), fun i hi k hk => hS' k (.inr (.inl (weights_all (List.mem_map.2 ⟨i, List.mem_range.2 hi, rfl⟩) k hk)))⟩
    have hv : ∀ i, i < len → ∃ v, d.K w v ((w.cells? base (a.add (i * P.cellsOf e)) (P.cellsOf e)).getD []) ∧ G v := fun i hi => by
      obtain ⟨cs', h1, h2⟩ := hx i (by omega)
      obtain ⟨v, hk, hg⟩ := f.go h2 (hw.2 i hi)
      exact ⟨v, by rw [h1]; exact hk, hg⟩
    have hex : ∀ q, q ≤ len → ∃ l : List α, l.length = q ∧ ∀ i v, l[i]? = some v → d.K w v ((w.cells? base (a.add (i * P.cellsOf e)) (P.cellsOf e)).getD []) ∧ G v := by
      intro q
      induction q with
      | zero => intro _; exact ⟨[], rfl, fun i v h => by simp at h⟩
      | succ q ih =>
        intro hq
        obtain ⟨l, hl1, hl2⟩ := ih (by omega)
        obtain ⟨v, hk, hg⟩ := hv q (by omega)
        refine ⟨l ++ [v], by simp [hl1], fun i u hu => ?_⟩
        rcases Nat.lt_or_ge i l.length with hi | hi
        · rw [List.getElem?_append_left hi] at hu; exact hl2 i u hu
        · have : i = l.length := by
            have := (List.getElem?_eq_some_iff.1 hu).1
            simp at this; omega
          subst this
          simp at hu; subst hu
          rw [hl1]; exact ⟨hk, hg⟩
    obtain ⟨l, hll, hlp⟩ := hex len (Nat.le_refl _)
    have hb63 : len ≤ 9223372036854775807 := Nat.le_trans hl (Nat.le_trans hm (by unfold maxLen; omega))
    refine ⟨l, some a, cap, by rw [hll], by rw [hll]; exact hl, ⟨rfl, by rw [hll]; exact hb63, fun _ => ⟨a, rfl, fun j p hj => ?_⟩⟩, by rw [hll]; omega, by rw [hll]; simpa using hw.1, fun v hvm => ?_⟩
    · have hjl : j < len := by rw [← hll]; exact (List.getElem?_eq_some_iff.1 hj).1
      obtain ⟨cs', h1, _⟩ := hx j (by omega)
      have hk := (hlp j p hj).1
      rw [h1] at hk
      have hk : d.K w p cs' := hk
      obtain ⟨_, hlen, hcell⟩ := World.cells?_some h1
      refine ⟨cs', by rw [d.K_len hk], hk, fun i u hu => ?_⟩
      have hi : i < P.cellsOf e := by rw [← hlen]; exact (List.getElem?_eq_some_iff.1 hu).1
      rw [f.sz]
      have := hcell i hi
      rw [hu] at this
      rw [← this]
      rw [add_add]
    · obtain ⟨i, hi, rfl⟩ := List.mem_iff_getElem.1 hvm
      exact (hlp i _ (List.getElem?_eq_getElem hi)).2
theorem FZ.slice {α : Type} {P : Program} {t e : TypeId} {d : Kd α} {G : α → Prop} (ht : P.underlying t = some (.slice e)) (hs : P.cellsOf t = 1) (f : FZ P e d G) : FZ P t (Kd.slice e d) (fun l => (l.length ≤ maxLen ∧ ∀ v ∈ l, G v) ∧ l.length * P.bytesOf e ≤ reachBytes) := by
  refine ⟨hs.symm, fun h hS => ?_⟩
  obtain ⟨l, A, c, rfl, hl, hC, hm, hz, hg⟩ := row_of_trodZ ht f h hS
  exact ⟨l, ⟨A, c, rfl, hl, hC⟩, ⟨hm, hg⟩, hz⟩
theorem sb_field {H : Type} {P : Program} {t : TypeId} {fs : Array Field} {ds : List (DataW H)} (ht : P.underlying t = some (.struct fs)) (h : SB P t (.agg ds)) (i u : Nat) {d : DataW H} (hf : (fs[i]?).map (·.type) = some u) (hd : ds[i]? = some d) : SB P u d := by
  intro n hn
  refine h n ?_
  simp only [DataW.weights, ht]
  refine DataW.weights_mem_each (j := i) ?_ hd n hn
  rw [List.getElem?_map, Array.getElem?_toList]; exact hf
/-- A field of a struct that reads, with its weight. -/
theorem field_ofZ {H : Type} {enc : TypeId × Value → H} {P : Program} {w : World} {base : Nat} {spare : Nat → Bool} {held : Bool} {fs : Array Field} {cs : List Value} {xs : List (DataW H × List MemPlace)} {n T : Nat}
    (h : ∀ (i : Nat) (f : Field), fs[i]? = some f → DataW.trod enc P w base spare held n f.type ((cs.drop f.offset).take (P.cellsOf f.type)) = xs[i]?) (hl : xs.length = fs.size) (hT : P.underlying T = some (.struct fs)) (hS : SB P T (.agg (xs.map (·.1))))
    {α : Type} {d : Kd α} {G : α → Prop} (i t o : Nat) (hf : (fs[i]?).map (fun f => (f.type, f.offset)) = some (t, o)) (f : FZ P t d G) : ∃ v, d.K w v ((cs.drop o).take d.sz) ∧ G v := by
  obtain ⟨f0, hf0, e⟩ := Option.map_eq_some_iff.1 hf
  obtain ⟨rfl, rfl⟩ := Prod.mk.inj e
  have hi : i < xs.length := by
    rw [hl]; exact (Array.getElem?_eq_some_iff.1 hf0).1
  have h2 := h i f0 hf0
  rw [List.getElem?_eq_getElem hi] at h2
  rw [f.sz]
  exact f.go h2 (sb_field hT hS i f0.type (by rw [hf0]; rfl) (by rw [List.getElem?_map, List.getElem?_eq_getElem hi]; rfl))
theorem arg_rowZ {α : Type} {P : Program} {t e : TypeId} {d : Kd α} {G : α → Prop} (ht : P.underlying t = some (.slice e)) (f : FZ P e d G) {H : Type} {enc : TypeId × Value → H} {w : World} {base : Nat} {spare : Nat → Bool} {held : Bool}
    {A : Option Addr} {n c : Nat} {x : DataW H} {ps : List MemPlace} (h : DataW.Trod enc P w base spare held t (.slice A n c) x ps) (hS : SB P t x) :
    ∃ l : List α, n = l.length ∧ d.C w A l.length l ∧ l.length ≤ c ∧ l.length ≤ maxLen ∧ ∀ v ∈ l, G v := by
  obtain ⟨fuel, hf⟩ := h
  obtain ⟨l, A', c', he, hl, hC, hm, _, hg⟩ := row_of_trodZ ht f hf hS
  simp [Value.cells] at he
  obtain ⟨rfl, rfl, rfl⟩ := he
  exact ⟨l, rfl, hC, hl, hm, hg⟩
/-- An argument that is a struct. -/
theorem arg_struct {α : Type} {P : Program} {t : TypeId} {d : Kd α} {G : α → Prop} (f : FT P t d G) {H : Type} {enc : TypeId × Value → H} {w : World} {base : Nat} {spare : Nat → Bool} {held : Bool}
    {v : Value} {x : DataW H} {ps : List MemPlace} (h : DataW.Trod enc P w base spare held t v x ps) : ∃ y, d.K w y v.cells.toList ∧ G y := by
  obtain ⟨fuel, hf⟩ := h
  exact f.go hf
theorem agg_shape {P : Program} {w : World} {r : Reach} {base : Nat} {t : TypeId} {v : Value} {fs : Array Field} (ht : P.underlying t = some (.struct fs)) (h : Value.okWide P w r base t v) : ∃ cs, v = .agg cs := by
  unfold Value.okWide at h
  split at h
  · obtain ⟨cs, h1, _⟩ := h
    exact ⟨cs, h1⟩
  · obtain ⟨cs, h1, _⟩ := h
    exact ⟨cs, h1⟩
  · rename_i n1 n2
    exact absurd ht (n1 fs)
theorem agg_of_cells {v : Value} {l : List Value} (h : ∃ cs, v = .agg cs) (he : v.cells.toList = l) : v = .agg l.toArray := by
  obtain ⟨cs, rfl⟩ := h
  simp [Value.cells] at he
  rw [← he]
end Go.Proofs.Ytkhjeglppnibhaa.Read
