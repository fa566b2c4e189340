/- What a writer's methods (chapter 1) do to memory. -/
import Derived.Test.YtdamjkfggmmmeabOctet
namespace Go.Proofs.Ytdamjkfggmmmeab.Writer
open Go.RowKit Go.Proofs.YtdamjkfggmmmeabW.PrintWords Go.Proofs.YtdamjkfggmmmeabW.PrintLast Go.Proofs.YtdamjkfggmmmeabW.PrintMore Go.Proofs.Ytdamjkfggmmmeab.Octet
set_option linter.unusedVariables false
set_option linter.unusedSimpArgs false

def fitsB (n v : Int) : Bool := decide (1 ≤ n ∧ n ≤ 7 ∧ 0 ≤ v ∧ v < 2 ^ (8 * n.toNat))
theorem fits1 (v : Int) (h0 : 0 ≤ v) : (v / 256 == 0) = fitsB 1 v := by
  unfold fitsB; rw [show (2 : Int) ^ (8 * (1 : Int).toNat) = 256 by decide, Bool.eq_iff_iff]; simp; omega
theorem fits2 (v : Int) (h0 : 0 ≤ v) : (v / 65536 == 0) = fitsB 2 v := by
  unfold fitsB; rw [show (2 : Int) ^ (8 * (2 : Int).toNat) = 65536 by decide, Bool.eq_iff_iff]; simp; omega
theorem fits3 (v : Int) (h0 : 0 ≤ v) : (v / 16777216 == 0) = fitsB 3 v := by
  unfold fitsB; rw [show (2 : Int) ^ (8 * (3 : Int).toNat) = 16777216 by decide, Bool.eq_iff_iff]; simp; omega
theorem fits4 (v : Int) (h0 : 0 ≤ v) : (v / 4294967296 == 0) = fitsB 4 v := by
  unfold fitsB; rw [show (2 : Int) ^ (8 * (4 : Int).toNat) = 4294967296 by decide, Bool.eq_iff_iff]; simp; omega
theorem fits5 (v : Int) (h0 : 0 ≤ v) : (v / 1099511627776 == 0) = fitsB 5 v := by
  unfold fitsB; rw [show (2 : Int) ^ (8 * (5 : Int).toNat) = 1099511627776 by decide, Bool.eq_iff_iff]; simp; omega
theorem fits6 (v : Int) (h0 : 0 ≤ v) : (v / 281474976710656 == 0) = fitsB 6 v := by
  unfold fitsB; rw [show (2 : Int) ^ (8 * (6 : Int).toNat) = 281474976710656 by decide, Bool.eq_iff_iff]; simp; omega
theorem fits7 (v : Int) (h0 : 0 ≤ v) : (v / 72057594037927936 == 0) = fitsB 7 v := by
  unfold fitsB; rw [show (2 : Int) ^ (8 * (7 : Int).toNat) = 72057594037927936 by decide, Bool.eq_iff_iff]; simp; omega
theorem fits_no {n v : Int} (h : ¬ (1 ≤ n ∧ n ≤ 7 ∧ 0 ≤ v)) : fitsB n v = false := by
  unfold fitsB; simp; omega
set_option maxRecDepth 100000 in
theorem fits_is (n v : Int) (w : World) : Calls Try.prog 45 #[.int .i64 n, .int .i64 v] w fun r w' => r = .returned (.bool (fitsB n v)) ∧ w = w' := by
  by_cases h1 : 1 ≤ n
  · by_cases h7 : n ≤ 7
    · by_cases h0 : 0 ≤ v
      · have hn : n = 1 ∨ n = 2 ∨ n = 3 ∨ n = 4 ∨ n = 5 ∨ n = 6 ∨ n = 7 := by omega
        rcases hn with rfl | rfl | rfl | rfl | rfl | rfl | rfl
        all_goals
          go_enter Try.func45, Try.ntmps45
          go_wp2
          go_ret
          exact ⟨by (first | rw [← fits1 v h0] | rw [← fits2 v h0] | rw [← fits3 v h0] | rw [← fits4 v h0] | rw [← fits5 v h0] | rw [← fits6 v h0] | rw [← fits7 v h0]) <;> rfl, rfl⟩
      · rw [fits_no (by omega)]
        go_enter Try.func45, Try.ntmps45
        go_wp2
        go_ret
        exact ⟨rfl, rfl⟩
    · rw [fits_no (by omega)]
      go_enter Try.func45, Try.ntmps45
      go_wp2
      go_ret
      exact ⟨rfl, rfl⟩
  · rw [fits_no (by omega)]
    go_enter Try.func45, Try.ntmps45
    go_wp2
    go_ret
    exact ⟨rfl, rfl⟩

/-- A writer: all that was put, and whether it went bad. -/
structure Wr where
  b : List Int
  bad : Bool
/-- The writer in block g; its row v is its own, elsewhere than g, from base on. -/
structure Is (w : World) (base g : Nat) (v : Value) (s : Wr) : Prop where
  hg : w.heap[g]? = some (.cells #[v, .bool s.bad] 68 (0, 0))
  hR : Kd.R (Kd.int .u8) 5 w base (fun k => k ≠ g) v s.b
  le : base ≤ g
/-- What a method leaves: the row is the old one or a new one; all else stays. -/
structure Left (w w' : World) (base g : Nat) (v v' : Value) (s' : Wr) : Prop where
  is : Is w' base g v' s'
  keep : KeepBut w w' g v.ownBlock
  row : v'.ownBlock = v.ownBlock ∨ ∃ b, v'.ownBlock = some b ∧ w.heap.size ≤ b
  below : Below base w w'
theorem Left.same {w : World} {base g : Nat} {v : Value} {s : Wr} (h : Is w base g v s) : Left w w base g v v s := ⟨h, KeepBut.refl _ _ _, .inl rfl, Below.refl _ _⟩
set_option maxRecDepth 100000 in
theorem write_new (w : World) (base : Nat) (hb : base ≤ w.heap.size) :
    Calls Try.prog 12 #[] w fun e w' => ∃ g, e = .returned (.pointer (some ⟨g, 0, none⟩)) ∧ Is w' base g (.slice none 0 0) ⟨[], false⟩ ∧ w.heap.size ≤ g ∧ Below w.heap.size w w' := by
  go_enter Try.func12, Try.ntmps12
  go_wp2
  go_ret
  exact ⟨w.heap.size, rfl, ⟨heap_alloc_new w _, Kd.R_nil _ _ _ _ _, hb⟩, Nat.le_refl _, (Below.refl _ _).alloc (Nat.le_refl _) _⟩

set_option maxRecDepth 100000 in
theorem num_bad (g base : Nat) (u : Value) (s : Wr) (n v : Int) (w : World) (h : Is w base g u s) (hb : s.bad = true) :
    Calls Try.prog 14 #[.pointer (some ⟨g, 0, none⟩), .int .i64 n, .int .i64 v] w fun e w' => e = .returned (.pointer (some ⟨g, 0, none⟩)) ∧ w = w' := by
  have c1 := (blk_cell h.hg 1).trans (show _ = some (.bool s.bad) from rfl)
  rw [hb] at c1
  go_enter Try.func14, Try.ntmps14
  go_wp2
  go_ret
  exact ⟨rfl, rfl⟩
set_option maxRecDepth 100000 in
theorem num_not (g base : Nat) (u : Value) (s : Wr) (n v : Int) (w : World) (h : Is w base g u s) (hb : s.bad = false) (hf : fitsB n v = false) :
    Calls Try.prog 14 #[.pointer (some ⟨g, 0, none⟩), .int .i64 n, .int .i64 v] w fun e w' => e = .returned (.pointer (some ⟨g, 0, none⟩)) ∧ w.setCell ⟨g, 1, none⟩ (.bool true) = w' := by
  have HF := Lib.hid (fits_is n v w)
  have c1 := (blk_cell h.hg 1).trans (show _ = some (.bool s.bad) from rfl)
  have z1 := blk_frozen h.hg 1
  rw [hb] at c1
  rw [hf] at HF
  have hnot : ∀ (x : Bool) (w : World), (Op.unary .not (.bool x)).run Try.prog w = .ok (.bool (!x)) w := fun _ _ => rfl
  clear h
  go_enter Try.func14, Try.ntmps14
  go_wp2_with fail
  refine HF.out.mono ?_
  rintro e w' ⟨rfl, rfl⟩
  go_wp2
  go_ret
  exact ⟨rfl, rfl⟩
theorem Is.bad_ {w : World} {base g : Nat} {u : Value} {s : Wr} (h : Is w base g u s) : Left w (w.setCell ⟨g, 1, none⟩ (.bool true)) base g u u ⟨s.b, true⟩ := by
  refine ⟨⟨?_, Kd.R_far (p := ⟨g, 1, none⟩) h.hR (fun _ hk => hk) _, h.le⟩, (KeepBut.refl _ _ _).set_ _ _, .inl rfl, (Below.refl _ _).setCell (p := ⟨g, 1, none⟩) h.le _⟩
  have := blk_set h.hg 1 (.bool true)
  simpa using this
/-- An append, and the new row stored: what it leaves. -/
theorem Is.put_ {w w1 : World} {base g : Nat} {u u1 : Value} {s : Wr} {l : List Int} (h : Is w base g u s) (hb : s.bad = false) (hR : Kd.R (Kd.int .u8) 5 w1 base (fun k => k ≠ g) u1 l) (hB : Below base w w1) (hg : w.grownBy w1 u.ownBlock) (hat : u1.ownBlock = u.ownBlock ∨ ∃ b, u1.ownBlock = some b ∧ w.heap.size ≤ b) :
    Left w (w1.setCell ⟨g, 0, none⟩ u1) base g u u1 ⟨l, false⟩ := by
  have hG := blk_grown h.hg hg (Kd.R_ne h.hR h.hg (by decide))
  refine ⟨⟨?_, Kd.R_far (p := ⟨g, 0, none⟩) hR (fun _ hk => hk) _, h.le⟩, (KeepBut.of_grown hg g).set_ _ _, hat, hB.setCell (p := ⟨g, 0, none⟩) h.le _⟩
  have := blk_set hG 0 u1
  rw [hb] at this
  simpa using this
theorem Left.then {w w1 w2 : World} {base g : Nat} {u u1 u2 : Value} {s1 s2 : Wr} (h : Left w w1 base g u u1 s1) (k : Left w1 w2 base g u1 u2 s2) : Left w w2 base g u u2 s2 := by
  refine ⟨k.is, KeepBut.trans h.keep k.keep h.row, ?_, h.below.trans k.below⟩
  have := keep_size h.keep
  rcases k.row with e | ⟨b, e, hb⟩
  · rcases h.row with e1 | ⟨b, e1, hb⟩
    · exact .inl (e.trans e1)
    · exact .inr ⟨b, e.trans e1, hb⟩
  · exact .inr ⟨b, e, by omega⟩
theorem Left.drew {w w1 : World} {base g : Nat} {u u1 : Value} {s1 : Wr} (h : Left w.drew w1 base g u u1 s1) : Left w w1 base g u u1 s1 :=
  ⟨h.is, h.keep, h.row, ⟨h.below.os, h.below.tape, h.below.output, h.below.size, h.below.block⟩⟩
/-- The n bytes of a number, the highest first, from the byte i on. -/
def digs (v : Int) : Nat → List Int
  | 0 => []
  | i + 1 => v / 2 ^ (8 * i) % 256 :: digs v i
theorem digs_len (v : Int) : ∀ j, (digs v j).length = j := fun j => by induction j with | zero => rfl | succ j ih => simp [digs, ih]
set_option maxRecDepth 100000 in
set_option maxHeartbeats 4000000 in
theorem num_yes (g base : Nat) (u0 : Value) (s : Wr) (n : Nat) (v : Int) (w : World) (h : Is w base g u0 s) (hb : s.bad = false) (hf : fitsB n v = true) (hl : s.b.length ≤ 1000000) :
    Calls Try.prog 14 #[.pointer (some ⟨g, 0, none⟩), .int .i64 (n : Int), .int .i64 v] w fun e w' => e = .returned (.pointer (some ⟨g, 0, none⟩)) ∧ ∃ u', Left w w' base g u0 u' ⟨s.b ++ digs v n, false⟩ := by
  have HF := Lib.hid (fits_is n v w)
  have hnv : 1 ≤ n ∧ n ≤ 7 ∧ 0 ≤ v := by
    unfold fitsB at hf; simp at hf; omega
  rw [hf] at HF
  have c1 : w.cell? ⟨g, 1, none⟩ = some (.bool false) := by
    rw [← hb]; exact (blk_cell h.hg 1).trans rfl
  have hs : s = ⟨s.b, false⟩ := by cases s; simp only at hb; subst hb; rfl
  have HI := Aside0.mk (show Left w w base g u0 u0 ⟨s.b, false⟩ by rw [← hs]; exact Left.same h)
  have hnot : ∀ (x : Bool) (w : World), (Op.unary .not (.bool x)).run Try.prog w = .ok (.bool (!x)) w := fun _ _ => rfl
  have hwn : wrap64 ((n : Int) - 1) = (n : Int) - 1 := by unfold wrap64; omega
  clear h hs
  go_enter Try.func14, Try.ntmps14
  go_wp2_with fail
  refine HF.out.mono ?_
  rintro e w' ⟨rfl, rfl⟩
  go_wp2
  go_loopg [7] (n + 1) (fun kq v7 w' => ∃ i : Nat, v7 = .int .i64 ((i : Int) - 1) ∧ Aside0 (i ≤ n) ∧ Aside0 (kq = i + 1) ∧ Aside0 (∃ acc u, Left w w' base g u0 u ⟨acc, false⟩ ∧ acc ++ digs v i = s.b ++ digs v n))
  case atStart => exact ⟨n, rfl, ⟨Nat.le_refl _⟩, ⟨rfl⟩, ⟨s.b, u0, HI.out, rfl⟩⟩
  case round =>
    obtain ⟨i, rfl, hi, hk, hA⟩ := hrel
    cases i with
    | zero =>
      obtain ⟨acc, u, hL, he⟩ := hA.out
      simp only [digs, List.append_nil] at he
      have H := Lib.hid hL
      clear hL hA HI
      go_wp2
      go_ret
      exact ⟨rfl, u, by rw [← he]; exact H.out⟩
    | succ i =>
      obtain ⟨acc, u, hL, he⟩ := hA.out
      have HL := Aside0.mk hL
      obtain ⟨⟨hg, hR, hle⟩, _, _, _⟩ := hL
      have c0 := (blk_cell hg 0).trans (show _ = some u from rfl)
      have z0 := blk_frozen hg 0
      have hgl := blk_lt hg
      have hal : acc.length ≤ 2000000 := by
        have h1 := congrArg List.length he
        simp [digs_len] at h1; omega
      obtain ⟨Au, cu, rfl⟩ := Kd.R_slice hR
      have HR := Aside0.mk hR
      clear hR
      have hi6 : i ≤ 6 := by have := hi.out; omega
      have hk := hk.out
      subst hk
      have hsub : ((i + 1 : Nat) : Int) - 1 = (i : Int) := by omega
      rw [hsub]
      have HE := Aside0.mk he
      have HG := Aside0.mk (And.intro hg (Kd.R_ne HR.out hg (by decide)))
      clear hg he
      have hw8 : IntKind.i64.wrap (8 * (i : Int)) = 8 * (i : Int) := by rw [i64_w]; unfold wrap64; omega
      obtain ⟨q, hq⟩ : ∃ q, IntKind.u8.wrap (v / 2 ^ (8 * (i : Int)).toNat) = q := ⟨_, rfl⟩
      go_wp2
      go_region_law (rw [show (wr.alloc (.cells #[.int .u8 q] 5)).drew = wr.drew.alloc (.cells [.int .u8 q].toArray 5) from rfl]; refine Kd.R_append_step (Kd.int .u8) (w0 := wr.drew) (W := wr.drew) base rfl (.tmp 35) (.tmp 41) 22 5 (.int .u8 0) 1 rfl (by kernel_rfl) info5 rfl (by decide) (by omega) (.slice Au acc.length cu) acc q [.int .u8 q] (fun k => k ≠ g) (fun _ => False) rfl rfl rfl (fun _ hk => hk.elim) ?hf ?hO ?hBl ?hbs ?hl ?_; (case hf => intro k hk; simp at hk; omega); (case hO => exact Kd.R_drew HR.out); (case hBl => exact Below.refl _ _); (case hbs => simp; omega); (case hl => omega); intro v1 w1 ho hb1 hg1 hat; have hG1 := blk_grown (w := wr.drew) HG.out.1 hg1 HG.out.2; have c1' := (blk_cell hG1 0).trans (show _ = some (.slice Au acc.length cu) from rfl); have z1' := blk_frozen hG1 0; have HW := Aside0.mk (Left.drew (Is.put_ (w := wr.drew) ⟨HL.out.is.hg, HL.out.is.hR, HL.out.is.le⟩ rfl ho hb1 hg1 hat)); have HO1 := Aside0.mk ho; clear hG1 ho hb1 hg1 hat; obtain ⟨An, cn, rfl⟩ := Kd.R_slice HO1.out; clear HO1)
      all_goals
        have HQ := Aside0.mk hq
        clear hq
        go_wp2
        go_roundg (i + 1)
        case measure => omega
        case rel =>
          refine ⟨i, by first | rfl | (congr 1; unfold wrap64; omega), ⟨by have := hi.out; omega⟩, ⟨rfl⟩, ⟨acc ++ [q], .slice An (acc ++ [q]).length cn, ?_, ?_⟩⟩
          · have := HL.out.then HW.out
            simpa using this
          · rw [← HE.out, List.append_assoc]
            congr 1
            rw [← HQ.out]
            simp only [List.singleton_append, digs, IntKind.wrap_u8]
            rw [show (8 * (i : Int)).toNat = 8 * i by omega]
/-- What a number does. -/
def numW (s : Wr) (n v : Int) : Wr := if s.bad = true then s else if fitsB n v = true then ⟨s.b ++ digs v n.toNat, false⟩ else ⟨s.b, true⟩
theorem num_all (g base : Nat) (u : Value) (s : Wr) (n v : Int) (w : World) (h : Is w base g u s) (hl : s.b.length ≤ 1000000) :
    Calls Try.prog 14 #[.pointer (some ⟨g, 0, none⟩), .int .i64 n, .int .i64 v] w fun e w' => e = .returned (.pointer (some ⟨g, 0, none⟩)) ∧ ∃ u', Left w w' base g u u' (numW s n v) := by
  unfold numW
  cases hb : s.bad with
  | true =>
    rw [if_pos rfl]
    refine (num_bad g base u s n v w h hb).mono ?_
    rintro e w' ⟨rfl, rfl⟩
    exact ⟨rfl, u, Left.same h⟩
  | false =>
    rw [if_neg (by simp)]
    by_cases hf : fitsB n v = true
    · rw [if_pos hf]
      have hn : 1 ≤ n := by unfold fitsB at hf; simp at hf; omega
      obtain ⟨m, rfl⟩ := Int.eq_ofNat_of_zero_le (show 0 ≤ n by omega)
      exact num_yes g base u s m v w h hb hf hl
    · rw [if_neg hf]
      refine (num_not g base u s n v w h hb (by simpa using hf)).mono ?_
      rintro e w' ⟨rfl, rfl⟩
      exact ⟨rfl, u, h.bad_⟩
set_option maxRecDepth 100000 in
theorem raw_bad (g base : Nat) (u : Value) (s : Wr) (A : Option Addr) (n c : Nat) (w : World) (h : Is w base g u s) (hb : s.bad = true) :
    Calls Try.prog 13 #[.pointer (some ⟨g, 0, none⟩), .slice A n c] w fun e w' => e = .returned (.pointer (some ⟨g, 0, none⟩)) ∧ w = w' := by
  have c1 := (blk_cell h.hg 1).trans (show _ = some (.bool s.bad) from rfl)
  rw [hb] at c1
  go_enter Try.func13, Try.ntmps13
  go_wp2
  go_ret
  exact ⟨rfl, rfl⟩
set_option maxRecDepth 100000 in
set_option maxHeartbeats 4000000 in
theorem raw_yes (g base : Nat) (u : Value) (s : Wr) (A : Option Addr) (l : List Int) (c : Nat) (w : World) (h : Is w base g u s) (hb : s.bad = false) (hr : Kd.C (Kd.int .u8) w A l.length l) (hl : s.b.length + l.length ≤ 2000000) :
    Calls Try.prog 13 #[.pointer (some ⟨g, 0, none⟩), .slice A l.length c] w fun e w' => e = .returned (.pointer (some ⟨g, 0, none⟩)) ∧ ∃ u', Left w w' base g u u' ⟨s.b ++ l, false⟩ := by
  have c1 : w.cell? ⟨g, 1, none⟩ = some (.bool false) := by
    rw [← hb]; exact (blk_cell h.hg 1).trans rfl
  have c0 := (blk_cell h.hg 0).trans (show _ = some u from rfl)
  have hgl := blk_lt h.hg
  have hle := h.le
  obtain ⟨Au, cu, rfl⟩ := Kd.R_slice h.hR
  have HI := Aside0.mk h
  have HR := Aside0.mk hr
  have HB := Aside0.mk hb
  clear h hr hb
  go_enter Try.func13, Try.ntmps13
  go_wp2_with (first
   | ((with_reducible refine gate_builtin (b := .append) (xs := #[.tmp 18, .tmp 19]) rfl ?_); at_builtin; go_loud (refine Kd.R_append_rows (Kd.int .u8) (w0 := w) base rfl (.tmp 18) (.tmp 19) 22 5 (.int .u8 0) 1 rfl Try.underlying22 info5 rfl (by decide) (by omega) (.slice Au s.b.length cu) s.b l _ _ _ (fun k => k ≠ g) (fun _ => False) rfl rfl ?aO ?aR (fun _ _ h => h) (fun _ h => h.elim) ?aF ?aB ?aS ?aL ?_; (case aR => exact HR.out); (case aB => exact Below.refl _ _); (case aF => intro k hk; omega); (case aO => exact HI.out.hR); (case aS => omega); (case aL => omega); intro v1 w1 ho hb1 hg1 hat; have hG1 := blk_grown HI.out.hg hg1 (Kd.R_ne HI.out.hR HI.out.hg (by decide)); have c1' := (blk_cell hG1 0).trans (show _ = some (.slice Au s.b.length cu) from rfl); have z1' := blk_frozen hG1 0; have HW := Aside0.mk (Is.put_ HI.out HB.out ho hb1 hg1 hat); have HO1 := Aside0.mk ho; clear hG1 ho hb1 hg1 hat; obtain ⟨An, cn, rfl⟩ := Kd.R_slice HO1.out; clear HO1)))
  go_ret
  refine ⟨rfl, .slice An (s.b ++ l).length cn, ?_⟩
  have := HW.out
  simpa only [List.length_append] using this
def rawW (s : Wr) (l : List Int) : Wr := if s.bad = true then s else ⟨s.b ++ l, false⟩
theorem raw_all (g base : Nat) (u : Value) (s : Wr) (A : Option Addr) (l : List Int) (c : Nat) (w : World) (h : Is w base g u s) (hr : Kd.C (Kd.int .u8) w A l.length l) (hl : s.b.length + l.length ≤ 2000000) :
    Calls Try.prog 13 #[.pointer (some ⟨g, 0, none⟩), .slice A l.length c] w fun e w' => e = .returned (.pointer (some ⟨g, 0, none⟩)) ∧ ∃ u', Left w w' base g u u' (rawW s l) := by
  unfold rawW
  cases hb : s.bad with
  | true =>
    rw [if_pos rfl]
    refine (raw_bad g base u s A l.length c w h hb).mono ?_
    rintro e w' ⟨rfl, rfl⟩
    exact ⟨rfl, u, Left.same h⟩
  | false =>
    rw [if_neg (by simp)]
    exact raw_yes g base u s A l c w h hb hr hl
set_option maxRecDepth 100000 in
theorem bytes_bad (g base : Nat) (u : Value) (s : Wr) (w : World) (h : Is w base g u s) (hb : s.bad = true) :
    Calls Try.prog 15 #[.pointer (some ⟨g, 0, none⟩)] w fun e w' => e = .returned (.tuple #[.slice none 0 0, .bool false]) ∧ w = w' := by
  have c1 := (blk_cell h.hg 1).trans (show _ = some (.bool s.bad) from rfl)
  rw [hb] at c1
  go_enter Try.func15, Try.ntmps15
  go_wp2
  go_ret2
  exact ⟨rfl, rfl⟩
set_option maxRecDepth 100000 in
set_option maxHeartbeats 4000000 in
theorem bytes_yes (g base : Nat) (u : Value) (s : Wr) (w : World) (h : Is w base g u s) (hb : s.bad = false) (hl : s.b.length ≤ 1000000) :
    Calls Try.prog 15 #[.pointer (some ⟨g, 0, none⟩)] w fun e w' => ∃ x : Value, e = .returned (.tuple #[x, .bool true]) ∧ Kd.R (Kd.int .u8) 5 w' w.heap.size (fun _ => True) x s.b ∧ Below w.heap.size w w' := by
  have c1 : w.cell? ⟨g, 1, none⟩ = some (.bool false) := by
    rw [← hb]; exact (blk_cell h.hg 1).trans rfl
  have c0 := (blk_cell h.hg 0).trans (show _ = some u from rfl)
  obtain ⟨Au, cu, rfl⟩ := Kd.R_slice h.hR
  have hC := (Kd.R_reads' h.hR).2.2
  have hmk := make5 s.b.length (by omega) w
  obtain ⟨W0, hW0⟩ : ∃ W0, W0 = w.alloc (.cells (List.replicate s.b.length (Value.int .u8 0)).toArray 5) := ⟨_, rfl⟩
  rw [← hW0] at hmk
  have hb0 : W0.heap[w.heap.size]? = some (.cells (List.replicate s.b.length (Value.int .u8 0)).toArray 5 (0, 0)) := by rw [hW0]; exact heap_alloc_new w _
  have hbel0 : Below w.heap.size w W0 := by rw [hW0]; exact (Below.refl _ _).alloc (Nat.le_refl _) _
  have hcp := copy5 w.heap.size _ 5 Au s.b cu s.b.length W0 hb0 (by simp) (Kd.C_below hC hbel0)
  have hG0 : W0.heap[g]? = some (.cells #[.slice Au s.b.length cu, .bool s.bad] 68 (0, 0)) := by rw [hW0]; exact blk_alloc h.hg _
  have c00 := (blk_cell hG0 0).trans (show _ = some (.slice Au s.b.length cu) from rfl)
  obtain ⟨W1, hW1⟩ : ∃ W1, W1 = W0.setRow w.heap.size (Octet.bytes s.b).toArray := ⟨_, rfl⟩
  rw [← hW1] at hcp
  have hb1 : W1.heap[w.heap.size]? = some (.cells (Octet.bytes s.b).toArray 5 (0, 0)) := by rw [hW1]; exact setRow_heap W0 _ _ _ _ _ hb0
  have hbel1 : Below w.heap.size w W1 := by rw [hW1]; exact below_setRow hbel0 (Nat.le_refl _) _
  have H := Lib.hid (And.intro (own_whole (base := w.heap.size) hb1 (Nat.le_refl _) hl) hbel1)
  clear hb1 hbel1 hW1 hW0 hb0 hbel0 hG0 h hC
  go_enter Try.func15, Try.ntmps15
  go_wp2
  go_ret2
  exact ⟨_, rfl, H.out.1, H.out.2⟩
theorem bytes_all (g base : Nat) (u : Value) (s : Wr) (w : World) (h : Is w base g u s) (hl : s.b.length ≤ 1000000) :
    Calls Try.prog 15 #[.pointer (some ⟨g, 0, none⟩)] w fun e w' => ∃ x : Value, e = .returned (.tuple #[x, .bool (!s.bad)]) ∧ Kd.R (Kd.int .u8) 5 w' w.heap.size (fun _ => True) x (if s.bad = true then [] else s.b) ∧ Below w.heap.size w w' := by
  cases hb : s.bad with
  | true =>
    refine (bytes_bad g base u s w h hb).mono ?_
    rintro e w' ⟨rfl, rfl⟩
    exact ⟨_, rfl, Kd.R_nil _ _ _ _ _, Below.refl _ _⟩
  | false => exact bytes_yes g base u s w h hb hl
end Go.Proofs.Ytdamjkfggmmmeab.Writer
