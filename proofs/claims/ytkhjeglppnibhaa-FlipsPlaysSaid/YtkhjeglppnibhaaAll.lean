/- All flips, and the last of a gate. -/
import Derived.Test.YtkhjeglppnibhaaLookB
import Derived.Lib.SliceRun
namespace Go.Proofs.Ytkhjeglppnibhaa.Flips
open Go.RowKit Go.Proofs.YtkhjeglppnibhaaW.PrintWords Go.Proofs.YtkhjeglppnibhaaW.PrintLast Go.Proofs.YtkhjeglppnibhaaW.PrintMore
set_option linter.unusedVariables false
set_option linter.unusedSimpArgs false
theorem empty_row (w : World) (base : Nat) (hb : base ≤ w.heap.size) : Kd.R kF 32 (w.alloc (.cells #[] 32)) base (fun _ => True) (.slice (some ⟨w.heap.size, 0, none⟩) 0 0) [] := by
  refine ⟨fun _ _ => trivial, [], ?_, ⟨rfl, fun j p hj => by simp at hj⟩⟩
  have h2 := World.ownsRow_lit (base := base) (e := 32) (size := 3) w #[] 0 hb (by simp [maxLen]) rfl
  simp only [List.length_nil]
  exact (by simpa using h2 : World.ownsRow _ base 32 3 _ 0 [])
set_option maxRecDepth 100000 in
set_option maxHeartbeats 4000000 in
theorem clone_is (A : Option Addr) (l : List Fl) (c : Nat) (w : World) (h : Kd.C kF w A l.length l) (hl : l.length ≤ 1000) :
    Calls Try.prog 16 #[.slice A l.length c] w fun e w' => ∃ y, e = .returned y ∧ Kd.R kF 32 w' w.heap.size (fun _ => True) y l ∧ Below w.heap.size w w' := by
  have HC := Aside0.mk h
  have HL := Aside0.mk hl
  have hq := fun w => Lib.run_eql_slice_nil (P := Try.prog) w 28 32 A l.length c 0 0 Try.underlying28
  cases A with
  | none =>
    have h0 : l = [] := by
      rcases Nat.eq_zero_or_pos l.length with h0 | h0
      · exact List.length_eq_zero_iff.1 h0
      · obtain ⟨_, _, e, _⟩ := Kd.C_get h zF (0 : Int) (by omega) (by omega)
        cases e
    subst h0
    clear h hl HC HL
    have hq : ∀ w, (binOp .eql 28 (.slice none 0 c) (.slice none 0 0)).run Try.prog w = .ok (.bool true) w := hq
    show Calls _ _ #[.slice none 0 c] _ _
    go_enter Try.func16, Try.ntmps16
    go_wp2_with fail
    go_ret
    exact ⟨_, rfl, Kd.R_nil _ _ _ _ _, Below.refl _ _⟩
  | some a =>
    clear h hl
    have hq : ∀ w, (binOp .eql 28 (.slice (some a) l.length c) (.slice none 0 0)).run Try.prog w = .ok (.bool false) w := hq
    go_enter Try.func16, Try.ntmps16
    have hE := Aside0.mk (empty_row w w.heap.size (Nat.le_refl _))
    have hBl := Aside0.mk (below_alloc (Below.refl w.heap.size w) (.cells #[] 32))
    have hCw := Aside0.mk (Kd.C_below HC.out hBl.out)
    go_wp2_with (first
     | ((with_reducible refine gate_builtin (b := .append) (xs := #[.tmp 5, .tmp 6]) rfl ?_); at_builtin; go_loud (refine Kd.R_append_rows kF (w0 := w) w.heap.size rfl (.tmp 5) (.tmp 6) 28 32 (.agg #[(.int .i64 0), (.int .i64 0), (.bool false)]) 24 rfl Try.underlying28 infoF rfl (by decide) (by omega) (.slice (some ⟨w.heap.size, 0, none⟩) 0 0) [] l _ _ _ (fun _ => True) (fun _ => False) rfl rfl ?aO ?aR (kF_KM (w := w.alloc (.cells #[] 32))) (fun _ h => h.elim) ?aF ?aB ?aS ?aL ?_; (case aR => exact hCw.out); (case aB => exact hBl.out); (case aF => intro k hk; trivial); (case aO => exact hE.out); (case aS => exact hBl.out.size); (case aL => have := HL.out; simp; omega); intro v1 w1 ho hb1 hg1 hat; have HW := Aside0.mk (And.intro ho hb1); clear ho hb1 hg1 hat)))
    go_ret
    exact ⟨_, rfl, HW.out.1, HW.out.2⟩
set_option maxRecDepth 100000 in
set_option maxHeartbeats 4000000 in
theorem all_is (g base : Nat) (v : Value) (l L : List Fl) (w : World) (h : Is w base g v l L) (hl : l.length ≤ 1000) :
    Calls Try.prog 9 #[.pointer (some ⟨g, 0, none⟩)] w fun e w' => ∃ y, e = .returned y ∧ Kd.R kF 32 w' w.heap.size (fun _ => True) y l ∧ Below w.heap.size w w' := by
  obtain ⟨Av, cv, rfl⟩ := Kd.R_slice h.hR
  have c0 := (blk_cell h.hg 0).trans (show _ = some (.slice Av l.length cv) from rfl)
  have HC := Lib.hid (clone_is Av l cv w (Kd.R_reads' h.hR).2.2 hl)
  clear h
  go_enter Try.func9, Try.ntmps9
  go_wp2_with fail
  refine HC.out.mono ?_
  rintro e w1 ⟨y, rfl, hR, hB⟩
  have H := Lib.hid (And.intro hR hB)
  clear hR hB
  go_wp2_with fail
  go_ret
  exact ⟨_, rfl, H.out.1, H.out.2⟩
/-- When gate q has flipped last. -/
def last (l : List Fl) (q : Int) : Int := l.foldl (fun a x => if x.g = q then x.at_ else a) 0
theorem last_snoc (l : List Fl) (x : Fl) (q : Int) : last (l ++ [x]) q = if x.g = q then x.at_ else last l q := by simp [last]
set_option maxRecDepth 100000 in
theorem last_out (b : Nat) (q : Int) (w : World) (h : ¬ (1 ≤ q ∧ q ≤ 3)) :
    Calls Try.prog 13 #[.pointer (some ⟨b, 0, none⟩), .int .i64 q] w fun r w' => r = .returned (.tuple #[.int .i64 0, .bool false]) ∧ w = w' := by
  have hnot : ∀ (x : Bool) (w : World), (Op.unary .not (.bool x)).run Try.prog w = .ok (.bool (!x)) w := fun _ _ => rfl
  have HH : ∀ W, Hid (Calls Try.prog 17 #[.pointer (some ⟨b, 0, none⟩), .int .i64 q] W fun r w' => r = .returned (.bool false) ∧ W = w') := fun W => Lib.hid (by refine (has_is b q W).mono ?_; rintro r w' ⟨rfl, rfl⟩; exact ⟨by simp [h], rfl⟩)
  go_enter Try.func13, Try.ntmps13
  go_wp2_with (first | (go_at_call 17; refine (HH _).out.mono ?_; rintro r w' ⟨rfl, rfl⟩))
  go_ret2
  exact ⟨rfl, rfl⟩
set_option maxRecDepth 100000 in
set_option maxHeartbeats 4000000 in
theorem last_in (g base : Nat) (v : Value) (l L : List Fl) (q : Int) (w : World) (h : Is w base g v l L) (hl : l.length ≤ 1000) (hq : 1 ≤ q ∧ q ≤ 3) :
    Calls Try.prog 13 #[.pointer (some ⟨g, 0, none⟩), .int .i64 q] w fun r w' => r = .returned (.tuple #[.int .i64 (last l q), .bool (decide (0 < cnt l q))]) ∧ w = w' := by
  have hnot : ∀ (x : Bool) (w : World), (Op.unary .not (.bool x)).run Try.prog w = .ok (.bool (!x)) w := fun _ _ => rfl
  have HH : Hid (Calls Try.prog 17 #[.pointer (some ⟨g, 0, none⟩), .int .i64 q] w fun r w' => r = .returned (.bool true) ∧ w = w') := Lib.hid (by refine (has_is g q w).mono ?_; rintro r w' ⟨rfl, rfl⟩; exact ⟨by simp [hq], rfl⟩)
  obtain ⟨Av, cv, rfl⟩ := Kd.R_slice h.hR
  have c0 := (blk_cell h.hg 0).trans (show _ = some (.slice Av l.length cv) from rfl)
  have HC := Aside0.mk (Kd.R_reads' h.hR).2.2
  clear h
  go_enter Try.func13, Try.ntmps13
  go_wp2_with fail
  refine HH.out.mono ?_
  rintro e w1 ⟨rfl, rfl⟩
  go_wp2_with fail
  go_loopg [6] (l.length + 1) (fun kq v6 w' => ∃ i : Nat, v6 = .int .i64 ((i : Int) - 1) ∧ Aside0 (i ≤ l.length) ∧ Aside0 (kq = i + 1) ∧ Aside0 (last (l.take i) q = last l q ∧ (0 < cnt (l.take i) q ↔ 0 < cnt l q)) ∧ w' = w)
  case atStart => exact ⟨l.length, rfl, ⟨Nat.le_refl _⟩, ⟨rfl⟩, ⟨by simp⟩, rfl⟩
  case round =>
    obtain ⟨i, rfl, hi, hk, hP, rfl⟩ := hrel
    have hk := hk.out
    subst hk
    cases i with
    | zero =>
      have HP := Aside0.mk hP.out
      clear hP
      go_wp2_with fail
      go_ret2
      obtain ⟨h1, h2⟩ := HP.out
      refine ⟨?_, rfl⟩
      have h3 : ¬ 0 < cnt l q := fun h => by have := h2.2 h; simp [cnt] at this
      rw [← h1, decide_eq_false h3]
      rfl
    | succ m =>
      have hm : m < l.length := by have := hi.out; omega
      have hsub : ((m + 1 : Nat) : Int) - 1 = (m : Int) := by omega
      rw [hsub]
      obtain ⟨ad, rfl, hx0, hx1, hx2⟩ := at_F HC.out m hm
      have ht : l.take (m + 1) = l.take m ++ [rdF l m] := by
        rw [show rdF l m = l[m] by simp [rdF, hm], List.take_append_getElem hm]
      have HP := Aside0.mk hP.out
      rw [ht, last_snoc, cnt_append, cnt_one] at HP
      generalize rdF l m = x at HP hx0 hx1 hx2
      have b0 : 0 ≤ (m : Int) := by omega
      have b1 : (m : Int) < l.length := by omega
      clear hP ht
      by_cases hxq : x.g = q
      · rw [if_pos hxq, if_pos hxq] at HP
        clear hi hm
        go_wp2_with fail
        go_ret2
        obtain ⟨h1, h2⟩ := HP.out
        exact ⟨by rw [← h1, decide_eq_true (h2.1 (Nat.succ_pos _))]; rfl, rfl⟩
      · rw [if_neg hxq, if_neg hxq] at HP
        have hi := Aside0.mk hm
        clear hm
        go_wp2_with fail
        go_roundg (m + 1)
        case measure => omega
        case rel => exact ⟨m, rfl, ⟨by have := hi.out; omega⟩, ⟨rfl⟩, ⟨HP.out.1, by have := HP.out.2; rwa [Nat.add_zero] at this⟩, rfl⟩
theorem last_is (g base : Nat) (v : Value) (l L : List Fl) (q : Int) (w : World) (h : Is w base g v l L) (hl : l.length ≤ 1000) :
    Calls Try.prog 13 #[.pointer (some ⟨g, 0, none⟩), .int .i64 q] w fun r w' => r = .returned (.tuple (if 1 ≤ q ∧ q ≤ 3 then #[.int .i64 (last l q), .bool (decide (0 < cnt l q))] else #[.int .i64 0, .bool false])) ∧ w = w' := by
  by_cases hq : 1 ≤ q ∧ q ≤ 3
  · rw [if_pos hq]; exact last_in g base v l L q w h hl hq
  · rw [if_neg hq]; exact last_out g q w hq
end Go.Proofs.Ytkhjeglppnibhaa.Flips
