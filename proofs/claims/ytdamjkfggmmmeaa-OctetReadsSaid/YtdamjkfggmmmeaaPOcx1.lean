-- WRITTEN BY A PROGRAM OF THIS SESSION (a print of its own, with given functions). Not trusted: Lean checks it.
import Derived.Test.YtdamjkfggmmmeaaPOcx0
namespace Go.Proofs.Ytdamjkfggmmmeaa.POc
open Go.RowKit Go.Proofs.YtdamjkfggmmmeaaW.PrintWords Go.Proofs.YtdamjkfggmmmeaaW.PrintLast Go.Proofs.YtdamjkfggmmmeaaW.PrintMore
attribute [local go_sem] max2_int min2_int max_two min_two max_three min_three max_four min_four   -- for this text's walks alone
set_option linter.unusedVariables false
set_option linter.unusedSimpArgs false

/-! ### polyglotlaw01_awake: function 35: BY HAND -/
def polyglotlaw01_awake.f : Option Bool := some true
theorem polyglotlaw01_awake.calls (r : Bool) (w : World) (h : polyglotlaw01_awake.f = some r) :
    Calls Try.prog 35 #[] w fun e w' => e = .returned (.bool r) ∧ Below w.heap.size w w' := by
  obtain rfl := Option.some.inj h
  exact OAwake.awake_is w


/-- A reader at block g of W; its bytes lie in a block that nobody else has. -/
def IsS109 (w0 W : World) (g : Nat) (f0 : Octet.Rd) : Prop := (∃ ob, Octet.Is W g ob f0 ∧ w0.heap.size ≤ ob) ∧ w0.heap.size ≤ g
def Off109 (W : World) (g : Nat) (row : Option Nat) : Prop := ∀ k, row = some k → k ≠ g ∧ ∀ ob s, Octet.Is W g ob s → k ≠ ob
theorem IsS109.grown {w0 W : World} {g : Nat} {f0 : Octet.Rd} {W1 : World} {row : Option Nat} (h : IsS109 w0 W g f0) (hw : W.grownBy W1 row) (hne : ∀ k, row = some k → k ≠ g ∧ ∀ ob s, Octet.Is W g ob s → k ≠ ob) : IsS109 w0 W1 g f0 := by
  obtain ⟨⟨ob, hI, ho⟩, hg⟩ := h
  have n1 : some g ≠ row := fun e => (hne g e.symm).1 rfl
  have n2 : some ob ≠ row := fun e => (hne ob e.symm).2 ob f0 hI rfl
  exact ⟨⟨ob, ⟨blk_grown hI.hg hw n1, blk_grown hI.ho hw n2, hI.ne, hI.le, hI.few⟩, ho⟩, hg⟩
theorem IsS109.below {w0 W : World} {g : Nat} {f0 : Octet.Rd} {W1 : World} (h : IsS109 w0 W g f0) (hw : Below W.heap.size W W1) : IsS109 w0 W1 g f0 := h.grown (grown_of_below hw none) (fun k e => by cases e)
theorem IsS109.alloc {w0 W : World} {g : Nat} {f0 : Octet.Rd} (h : IsS109 w0 W g f0) (o : Obj) : IsS109 w0 (W.alloc o) g f0 := h.below (below_alloc (Below.refl _ _) o)
theorem IsS109.drewN {w0 W : World} {g : Nat} {f0 : Octet.Rd} (h : IsS109 w0 W g f0) (m : Nat) : IsS109 w0 (W.drewN m) g f0 := by
  obtain ⟨⟨ob, hI, ho⟩, hg⟩ := h
  exact ⟨⟨ob, hI.drewN m, ho⟩, hg⟩
theorem IsS109.drew {w0 W : World} {g : Nat} {f0 : Octet.Rd} (h : IsS109 w0 W g f0) : IsS109 w0 W.drew g f0 := h.drewN 1
theorem IsS109.at_ {w0 W : World} {g : Nat} {f0 : Octet.Rd} {w' : World} {m : Nat} (hq : W.drewN m = w') (h : IsS109 w0 W g f0) : IsS109 w0 w' g f0 := by subst hq; exact IsS109.drewN h m
theorem IsS109.lt {w0 W : World} {g : Nat} {f0 : Octet.Rd} (h : IsS109 w0 W g f0) : g < W.heap.size := by
  obtain ⟨⟨ob, hI, ho⟩, hg⟩ := h
  exact blk_lt hI.hg
theorem IsS109.ge {w0 W : World} {g : Nat} {f0 : Octet.Rd} (h : IsS109 w0 W g f0) : w0.heap.size ≤ g := h.2
theorem IsS109.fresh {w0 W : World} {g : Nat} {f0 : Octet.Rd} (h : IsS109 w0 W g f0) : ∀ k, W.heap.size ≤ k → k ≠ g := fun k hk => by have := h.lt; omega
theorem IsS109.apart {w0 W : World} {g : Nat} {f0 : Octet.Rd} {α : Type} {d : Kd α} {e : Nat} {base : Nat} {ok : Nat → Prop} {v : Value} {xs : List α} (h : IsS109 w0 W g f0) (ho : d.R e W base ok v xs) (ht : ∀ q, q ∈ e :: d.E → q ≠ 109) : d.R e W base (fun k => ok k ∧ k ≠ g) v xs := by
  obtain ⟨⟨ob, hI, _⟩, hg⟩ := h
  exact Kd.R_types ho hI.hg ht
theorem IsS109.apartQ {w0 W : World} {g : Nat} {f0 : Octet.Rd} {α : Type} {d : Kd α} {e : Nat} {base : Nat} {ok : Nat → Prop} {v : Value} {xs : List α} (h : IsS109 w0 W g f0) (ho : d.Q e W base ok v xs) (ht : ∀ q, q ∈ e :: d.E → q ≠ 109) : d.Q e W base (fun k => ok k ∧ k ≠ g) v xs := by
  obtain ⟨⟨ob, hI, _⟩, hg⟩ := h
  exact Kd.Q_types ho hI.hg ht
theorem IsS109.apartS {w0 W : World} {g : Nat} {f0 : Octet.Rd} {α : Type} {d : Kd α} {e : Nat} {base : Nat} {ok : Nat → Prop} {v : Value} {xs : List α} (h : IsS109 w0 W g f0) (ho : d.S e W base ok v xs) (ht : ∀ q, q ∈ e :: d.E → q ≠ 109) : d.S e W base (fun k => ok k ∧ k ≠ g) v xs := by
  obtain ⟨⟨ob, hI, _⟩, hg⟩ := h
  exact Kd.S_types ho hI.hg ht
theorem IsS109.own_ne {w0 W : World} {g : Nat} {f0 : Octet.Rd} {α : Type} {d : Kd α} {e : Nat} {base : Nat} {ok : Nat → Prop} {v : Value} {xs : List α} (h : IsS109 w0 W g f0) (ho : d.R e W base ok v xs) (ht : e ≠ 109 ∧ e ≠ 5) : ∀ k, v.ownBlock = some k → k ≠ g ∧ ∀ ob s, Octet.Is W g ob s → k ≠ ob := by
  obtain ⟨⟨_, hI, _⟩, hg⟩ := h
  exact fun k hk => ⟨fun e_ => Kd.R_ne ho hI.hg ht.1 (by rw [hk, e_]), fun ob s hJ e_ => Kd.R_ne ho hJ.ho ht.2 (by rw [hk, e_])⟩
theorem IsS109.own_neQ {w0 W : World} {g : Nat} {f0 : Octet.Rd} {α : Type} {d : Kd α} {e : Nat} {base : Nat} {ok : Nat → Prop} {v : Value} {xs : List α} (h : IsS109 w0 W g f0) (ho : d.Q e W base ok v xs) (ht : e ≠ 109 ∧ e ≠ 5) : ∀ k, v.ownBlock = some k → k ≠ g ∧ ∀ ob s, Octet.Is W g ob s → k ≠ ob := by
  obtain ⟨⟨_, hI, _⟩, hg⟩ := h
  exact fun k hk => ⟨fun e_ => Kd.Q_ne ho hI.hg ht.1 (by rw [hk, e_]), fun ob s hJ e_ => Kd.Q_ne ho hJ.ho ht.2 (by rw [hk, e_])⟩
theorem IsS109.own_neS {w0 W : World} {g : Nat} {f0 : Octet.Rd} {α : Type} {d : Kd α} {e : Nat} {base : Nat} {ok : Nat → Prop} {v : Value} {xs : List α} (h : IsS109 w0 W g f0) (ho : d.S e W base ok v xs) (ht : e ≠ 109 ∧ e ≠ 5) : ∀ k, v.ownBlock = some k → k ≠ g ∧ ∀ ob s, Octet.Is W g ob s → k ≠ ob := by
  obtain ⟨⟨_, hI, _⟩, hg⟩ := h
  exact fun k hk => ⟨fun e_ => Kd.S_ne ho hI.hg ht.1 (by rw [hk, e_]), fun ob s hJ e_ => Kd.S_ne ho hJ.ho ht.2 (by rw [hk, e_])⟩
theorem IsS109.own_neN {w0 W : World} {g : Nat} {f0 : Octet.Rd} {α : Type} {d : Kd α} {e : Nat} {base : Nat} {ok : Nat → Prop} {v : Value} {xs : List α} (h : IsS109 w0 W g f0) (ho : Kd.N d e W base ok v xs) (ht : e ≠ 109 ∧ e ≠ 5) : ∀ k, v.ownBlock = some k → k ≠ g ∧ ∀ ob s, Octet.Is W g ob s → k ≠ ob := by
  obtain ⟨⟨_, hI, _⟩, hg⟩ := h
  exact fun k hk => ⟨fun e_ => Kd.N_ne ho hI.hg ht.1 (by rw [hk, e_]), fun ob s hJ e_ => Kd.N_ne ho hJ.ho ht.2 (by rw [hk, e_])⟩

/-! ### octet_Read: function 36: BY HAND -/
def octet_Read.f (l0 : List Int) : Option Octet.Rd := if l0.length ≤ 1000000 then some ⟨l0, 0, false⟩ else none
theorem octet_Read.calls (A0 : Option Addr) (c0 : Nat) (l0 : List Int) (r : Octet.Rd) (w0 w : World) (hB : Below w0.heap.size w0 w) (hr0 : Kd.C (Kd.int .u8) w A0 l0.length l0) (hc0 : l0.length ≤ c0) (h : octet_Read.f l0 = some r) :
    Calls Try.prog 36 #[.slice A0 l0.length c0] w fun e w' => ∃ g_ : Nat, e = .returned (.pointer (some ⟨g_, 0, none⟩)) ∧ IsS109 w0 w' g_ r ∧ Below w0.heap.size w0 w' ∧ Below w.heap.size w w' := by
  unfold octet_Read.f at h
  split at h
  · rename_i hm
    obtain rfl := Option.some.inj h
    refine (Octet.read_new A0 l0 c0 w hr0 hm).mono ?_
    rintro e w' ⟨g, ob, rfl, h1, h2, h3, h4, h5, h6⟩
    have := hB.size
    exact ⟨g, rfl, ⟨⟨ob, ⟨h1, h2, by omega, Nat.zero_le _, hm⟩, by omega⟩, by omega⟩, hB.trans (Octet.below_le h6 hB.size), h6⟩
  · cases h


/-! ### octet_Reader_Take: function 37: BY HAND -/
def octet_Reader_Take.f (s0_0 : Octet.Rd) (a1 : Int) : Option (List Int × Octet.Rd) := some ((Octet.stepF s0_0 a1).1.getD [], (Octet.stepF s0_0 a1).2)
theorem octet_Reader_Take.calls (g : Nat) (s0_0 : Octet.Rd) (a1 : Int) (r1 : List Int) (r2 : Octet.Rd) (w0 w : World) (hI : IsS109 w0 w g s0_0) (hB : Below w0.heap.size w0 w) (h : octet_Reader_Take.f s0_0 a1 = some (r1, r2)) :
    Calls Try.prog 37 #[.pointer (some ⟨g, 0, none⟩), .int .i64 a1] w fun e w' => ∃ v0_ : Value, e = .returned (v0_) ∧ Kd.R (Kd.int .u8) 5 w' w.heap.size (fun _ => True) v0_ r1 ∧ IsS109 w0 w' g r2 ∧ Below w0.heap.size w0 w' ∧ KeepBut w w' g none := by
  obtain ⟨⟨ob, hI, ho⟩, hg⟩ := hI
  obtain ⟨rfl, rfl⟩ := Prod.mk.inj (Option.some.inj h)
  refine (Octet.take_all g ob s0_0 a1 w hI _ _ rfl).mono ?_
  rintro e w' ⟨v, rfl, h1, h2, h3, h4⟩
  exact ⟨v, rfl, h1, ⟨⟨ob, h2, ho⟩, hg⟩, hB.trans (h4 _ hg hB.size), h3⟩


/-! ### polyglotlaw01_same: function 38 -/
def polyglotlaw01_same.f (l0 : List Int) (l1 : List Int) : Option (Bool) := some ((strOfNums l0).toList == (strOfNums l1).toList)
set_option maxHeartbeats 8000000 in
set_option maxRecDepth 100000 in
theorem polyglotlaw01_same.calls (A0 : Option Addr) (c0 : Nat) (l0 : List Int) (A1 : Option Addr) (c1 : Nat) (l1 : List Int) (r : Bool) (w : World) (hr0 : Kd.C (Kd.int .u8) w A0 l0.length l0) (hc0 : l0.length ≤ c0) (hr1 : Kd.C (Kd.int .u8) w A1 l1.length l1) (hc1 : l1.length ≤ c1) (h : polyglotlaw01_same.f l0 l1 = some r) :
    Calls Try.prog 38 #[.slice A0 l0.length c0, .slice A1 l1.length c1] w fun e w' => e = .returned (.bool r) ∧ Drawn0 w w' := by
  have HR0 := Aside0.mk hr0
  have HC0 := Aside0.mk hc0
  clear hr0 hc0
  have HR1 := Aside0.mk hr1
  have HC1 := Aside0.mk hc1
  clear hr1 hc1
  have H : (some ((strOfNums l0).toList == (strOfNums l1).toList)) = some r := h
  clear h
  obtain rfl := Option.some.inj H
  have hcv3 := Kd.C_string (P := Try.prog) (A := A0) (c := c0) Try.underlying36 Try.underlying5 Try.underlying9 HR0.out
  have hcv4 := Kd.C_string (P := Try.prog) (A := A1) (c := c1) Try.underlying36 Try.underlying5 Try.underlying9 HR1.out
  go_enter Try.func38, Try.ntmps38
  go_wp2
  go_ret
  exact ⟨by first | rfl | (simp; done) | (simp [*]; done), by repeat (first | exact Drawn0.refl _ | apply Drawn0.step)⟩

/-! ### octet_Reader_Num: function 39: BY HAND -/
def octet_Reader_Num.f (s0_0 : Octet.Rd) (a1 : Int) : Option (Int × Octet.Rd) :=
  if ((Octet.stepF s0_0 (Octet.numN a1)).1.getD []).all (fun c => decide (0 ≤ c ∧ c ≤ 255)) = true then some (Octet.num ((Octet.stepF s0_0 (Octet.numN a1)).1.getD []), (Octet.stepF s0_0 (Octet.numN a1)).2) else none
theorem octet_Reader_Num.calls (g : Nat) (s0_0 : Octet.Rd) (a1 : Int) (r1 : Int) (r2 : Octet.Rd) (w0 w : World) (hI : IsS109 w0 w g s0_0) (hB : Below w0.heap.size w0 w) (h : octet_Reader_Num.f s0_0 a1 = some (r1, r2)) :
    Calls Try.prog 39 #[.pointer (some ⟨g, 0, none⟩), .int .i64 a1] w fun e w' => e = .returned (.int .i64 r1) ∧ IsS109 w0 w' g r2 ∧ Below w0.heap.size w0 w' ∧ KeepBut w w' g none := by
  obtain ⟨⟨ob, hI, ho⟩, hg⟩ := hI
  unfold octet_Reader_Num.f at h
  split at h
  · rename_i hall
    obtain ⟨rfl, rfl⟩ := Prod.mk.inj (Option.some.inj h)
    refine (Octet.num_all g ob s0_0 a1 w hI _ _ rfl (fun p hp c hc => ?_)).mono ?_
    · have hq : (Octet.stepF s0_0 (Octet.numN a1)).1 = some p := hp
      rw [hq] at hall
      have := List.all_eq_true.1 hall c (by simpa using hc)
      simpa using this
    · rintro e w' ⟨rfl, h2, h3, h4⟩
      exact ⟨rfl, ⟨⟨ob, h2, ho⟩, hg⟩, hB.trans (h4 _ hg), h3⟩
  · cases h


/-! ### polyglotlaw01_number: function 40 -/
def polyglotlaw01_number.l0 : Nat → List Int → Int → Int → Option (Int)
  | 0, _, _, _ => none
  | k + 1, x0, x3, x4 => if x4 < (x0.length : Int) then (if 0 ≤ x4 then (polyglotlaw01_number.l0 k x0 (wrap64 ((wrap64 (x3 * 256)) + (wrap64 (rd x0 x4)))) (wrap64 (x4 + 1))) else (none)) else (some x3)
def polyglotlaw01_number.f (k : Nat) (l0 : List Int) : Option (Int) := polyglotlaw01_number.l0 k l0 0 0
theorem polyglotlaw01_number.mono_l : ∀ k, (∀ y0 y1 y2, LeO (polyglotlaw01_number.l0 k y0 y1 y2) (polyglotlaw01_number.l0 (k + 1) y0 y1 y2))
  | 0 => fun _ _ _ r h => by simp [polyglotlaw01_number.l0] at h
  | k + 1 => by
    have ih0 := polyglotlaw01_number.mono_l k
    · intro y0 y1 y2
      unfold polyglotlaw01_number.l0
      repeat' first
      | (with_reducible exact ih0 _ _ _)
      | (with_reducible exact LeO.refl _)
      | (with_reducible exact LeO.none _)
      | (with_reducible refine LeO.ite ?_ ?_)
      | (with_reducible refine LeO.bind ?_ (fun _ => ?_))
      | exact ih0 _ _ _
      | exact LeO.none _
      | refine LeO.ite ?_ ?_
      | refine LeO.bind ?_ (fun _ => ?_)
theorem polyglotlaw01_number.mono : ∀ a0 k, LeO (polyglotlaw01_number.f k a0) (polyglotlaw01_number.f (k + 1) a0) := by
  intro a0 k
  have ih0 := polyglotlaw01_number.mono_l k
  unfold polyglotlaw01_number.f
  repeat' first
      | (with_reducible exact ih0 _ _ _)
      | (with_reducible exact LeO.refl _)
      | (with_reducible exact LeO.none _)
      | (with_reducible refine LeO.ite ?_ ?_)
      | (with_reducible refine LeO.bind ?_ (fun _ => ?_))
      | exact ih0 _ _ _
      | exact LeO.none _
      | refine LeO.ite ?_ ?_
      | refine LeO.bind ?_ (fun _ => ?_)
set_option maxHeartbeats 8000000 in
set_option maxRecDepth 100000 in
theorem polyglotlaw01_number.calls (k : Nat) (A0 : Option Addr) (c0 : Nat) (l0 : List Int) (r : Int) (w : World) (hr0 : Kd.C (Kd.int .u8) w A0 l0.length l0) (hc0 : l0.length ≤ c0) (h : polyglotlaw01_number.f k l0 = some r) :
    Calls Try.prog 40 #[.slice A0 l0.length c0] w fun e w' => e = .returned (.int .i64 r) ∧ Drawn0 w w' := by
  have HR0 := Aside0.mk hr0
  have HC0 := Aside0.mk hc0
  clear hr0 hc0
  have H : (polyglotlaw01_number.l0 k l0 0 0) = some r := h
  clear h
  have H' := Aside0.mk H
  clear H
  go_enter Try.func40, Try.ntmps40
  go_wp2
  go_loopg [3, 4] k (fun kq v3 v4 w' => ∃ (x3_1 : Int) (x4_1 : Int), v3 = .int .i64 x3_1 ∧ v4 = .int .i64 x4_1 ∧ Aside0 (polyglotlaw01_number.l0 kq l0 x3_1 x4_1 = some r) ∧ Aside0 (kq ≤ k) ∧ Drawn0 w w')
  case atStart => exact ⟨(0), (0), (by first | rfl | (simp; done) | (simp [*]; done)), (by first | rfl | (simp; done) | (simp [*]; done)), H', ⟨Nat.le_refl _⟩, by repeat (first | exact Drawn0.refl _ | apply Drawn0.step)⟩
  case round =>
    clear H'
    obtain ⟨x3_1, x4_1, rfl, rfl, HA, HK1, ⟨m1, rfl⟩⟩ := hrel
    cases gk with
    | zero => exact absurd HA.out (by simp [polyglotlaw01_number.l0])
    | succ k1 =>
      have H := HA.out
      clear HA
      simp only [polyglotlaw01_number.l0] at H
      by_cases c2 : x4_1 < (l0.length : Int)
      · rw [if_pos c2] at H
        have c2b0 : decide (x4_1 < (l0.length : Int)) = true := decide_eq_true c2
        clear c2
        by_cases c3 : 0 ≤ x4_1
        · rw [if_pos c3] at H
          have c3b0 : decide (0 ≤ x4_1) = true := decide_eq_true c3
          clear c3
          have H' := Aside0.mk H
          clear H
          have p101 : 0 ≤ (x4_1 : Int) := of_decide_eq_true (by first | (with_reducible assumption) | assumption)
          have q101 : x4_1 < (l0.length : Int) := of_decide_eq_true (by first | (with_reducible assumption) | assumption)
          obtain ⟨ad101, e101, hx101_0⟩ := Kd.at_int HR0.out x4_1 p101 q101
          cases e101
          replace p101 := eq_true p101
          replace q101 := eq_true q101
          go_wp2
          go_roundg k1
          case measure => have := HK1.out; omega
          case rel => exact ⟨(wrap64 ((wrap64 (x3_1 * 256)) + (wrap64 (rd l0 x4_1)))), (wrap64 (x4_1 + 1)), (by first | rfl | (simp; done) | (simp [*]; done)), (by first | rfl | (simp; done) | (simp [*]; done)), H', ⟨by have := HK1.out; omega⟩, by repeat (first | exact Drawn0.refl _ | apply Drawn0.step)⟩
        · rw [if_neg c3] at H
          exact absurd H (by simp)
      · rw [if_neg c2] at H
        have c2b0 : decide (x4_1 < (l0.length : Int)) = false := decide_eq_false c2
        clear c2
        obtain rfl := Option.some.inj H
        go_wp2
        go_ret
        exact ⟨by first | rfl | (simp; done) | (simp [*]; done), by repeat (first | exact Drawn0.refl _ | apply Drawn0.step)⟩

/-! ### octet_Reader_Left: function 41: BY HAND -/
def octet_Reader_Left.f (s0_0 : Octet.Rd) : Option (Int × Octet.Rd) := some (if s0_0.bad = true then 0 else (s0_0.b.length : Int) - s0_0.at_, s0_0)
theorem octet_Reader_Left.calls (g : Nat) (s0_0 : Octet.Rd) (r1 : Int) (r2 : Octet.Rd) (w0 w : World) (hI : IsS109 w0 w g s0_0) (hB : Below w0.heap.size w0 w) (h : octet_Reader_Left.f s0_0 = some (r1, r2)) :
    Calls Try.prog 41 #[.pointer (some ⟨g, 0, none⟩)] w fun e w' => e = .returned (.int .i64 r1) ∧ IsS109 w0 w' g r2 ∧ Below w0.heap.size w0 w' ∧ KeepBut w w' g none := by
  obtain ⟨⟨ob, hI, ho⟩, hg⟩ := hI
  obtain ⟨rfl, rfl⟩ := Prod.mk.inj (Option.some.inj h)
  refine (Octet.left_is g ob _ w hI).mono ?_
  rintro e w' ⟨rfl, m, rfl⟩
  exact ⟨rfl, ⟨⟨ob, hI.drewN m, ho⟩, hg⟩, pw_below_drewN hB m, keep_drewN (KeepBut.refl _ _ _) m⟩


/-! ### octet_Reader_Bad: function 42: BY HAND -/
def octet_Reader_Bad.f (s0_0 : Octet.Rd) : Option (Bool × Octet.Rd) := some (s0_0.bad, s0_0)
theorem octet_Reader_Bad.calls (g : Nat) (s0_0 : Octet.Rd) (r1 : Bool) (r2 : Octet.Rd) (w0 w : World) (hI : IsS109 w0 w g s0_0) (hB : Below w0.heap.size w0 w) (h : octet_Reader_Bad.f s0_0 = some (r1, r2)) :
    Calls Try.prog 42 #[.pointer (some ⟨g, 0, none⟩)] w fun e w' => e = .returned (.bool r1) ∧ IsS109 w0 w' g r2 ∧ Below w0.heap.size w0 w' ∧ KeepBut w w' g none := by
  obtain ⟨⟨ob, hI, ho⟩, hg⟩ := hI
  obtain ⟨rfl, rfl⟩ := Prod.mk.inj (Option.some.inj h)
  refine (Octet.bad_is g ob _ w hI).mono ?_
  rintro e w' ⟨rfl, rfl⟩
  exact ⟨rfl, ⟨⟨ob, hI, ho⟩, hg⟩, hB, KeepBut.refl _ _ _⟩


/-! ### octet_Reader_Done: function 43: BY HAND -/
def octet_Reader_Done.f (s0_0 : Octet.Rd) : Option (Bool × Octet.Rd) := some (!s0_0.bad && decide (s0_0.b.length = s0_0.at_), s0_0)
theorem octet_Reader_Done.calls (g : Nat) (s0_0 : Octet.Rd) (r1 : Bool) (r2 : Octet.Rd) (w0 w : World) (hI : IsS109 w0 w g s0_0) (hB : Below w0.heap.size w0 w) (h : octet_Reader_Done.f s0_0 = some (r1, r2)) :
    Calls Try.prog 43 #[.pointer (some ⟨g, 0, none⟩)] w fun e w' => e = .returned (.bool r1) ∧ IsS109 w0 w' g r2 ∧ Below w0.heap.size w0 w' ∧ KeepBut w w' g none := by
  obtain ⟨⟨ob, hI, ho⟩, hg⟩ := hI
  obtain ⟨rfl, rfl⟩ := Prod.mk.inj (Option.some.inj h)
  refine (Octet.done_is g ob _ w hI).mono ?_
  rintro e w' ⟨rfl, m, rfl⟩
  exact ⟨rfl, ⟨⟨ob, hI.drewN m, ho⟩, hg⟩, pw_below_drewN hB m, keep_drewN (KeepBut.refl _ _ _) m⟩


end Go.Proofs.Ytdamjkfggmmmeaa.POc
