/- Plain laws of items, and what they come to. -/
import Derived.Test.YtdamjkfggmmmeabPKnx4
import Derived.Test.YtdamjkfggmmmeabPKnx3
namespace Go.Proofs.Ytdamjkfggmmmeab.Pure
open Go.RowKit Go.Proofs.Ytdamjkfggmmmeab.PKn Go.Proofs.YtdamjkfggmmmeabW.PrintWords Go.Proofs.YtdamjkfggmmmeabW.PrintLast Go.Proofs.YtdamjkfggmmmeabW.PrintMore
set_option linter.unusedVariables false
set_option linter.unusedSimpArgs false
theorem w64 {n : Int} (h0 : -9223372036854775808 ≤ n) (h1 : n < 9223372036854775808) : wrap64 n = n := by unfold wrap64; omega
theorem leo_up {α : Type} {f : Nat → Option α} (h : ∀ k, LeO (f k) (f (k + 1))) {k : Nat} {r : α} (hk : f k = some r) : ∀ d, f (k + d) = some r
  | 0 => hk
  | d + 1 => h _ _ (leo_up h hk d)
/-- From some number of rounds on. -/
def Ev (P : Nat → Prop) : Prop := ∃ n, ∀ k, n ≤ k → P k
theorem ev_of {α : Type} {f : Nat → Option α} (h : ∀ k, LeO (f k) (f (k + 1))) {r : α} (hk : ∃ k, f k = some r) : Ev fun k => f k = some r := by
  obtain ⟨n, hn⟩ := hk
  exact ⟨n, fun k hk => by have := leo_up h hn (k - n); rwa [show n + (k - n) = k by omega] at this⟩
theorem Ev.and {P Q : Nat → Prop} (h : Ev P) (k : Ev Q) : Ev fun n => P n ∧ Q n := by
  obtain ⟨a, ha⟩ := h
  obtain ⟨b, hb⟩ := k
  exact ⟨a + b, fun n hn => ⟨ha n (by omega), hb n (by omega)⟩⟩
theorem Ev.succ {P Q : Nat → Prop} (h : Ev P) (hq : ∀ k, P k → Q (k + 1)) : Ev Q := by
  obtain ⟨a, ha⟩ := h
  exact ⟨a + 1, fun k hk => by
    obtain ⟨m, rfl⟩ : ∃ m, k = m + 1 := ⟨k - 1, by omega⟩
    exact hq m (ha m (by omega))⟩
theorem Ev.mono {P Q : Nat → Prop} (h : Ev P) (hq : ∀ k, P k → Q k) : Ev Q := by
  obtain ⟨a, ha⟩ := h
  exact ⟨a, fun k hk => hq k (ha k hk)⟩
theorem Ev.all {P : Nat → Prop} (h : ∀ k, P k) : Ev P := ⟨0, fun k _ => h k⟩
def bytesOk (l : List Int) : Prop := ∀ c ∈ l, 0 ≤ c ∧ c ≤ 255
/-- The first field with a tag, and its place. -/
def fnd : List S40 → Int → Nat → Option (Nat × S40)
  | [], _, _ => none
  | x :: r, t, i => if x.f0 = t then some (i, x) else fnd r t (i + 1)
theorem rd_mid (done rest : List S40) (x : S40) : rd_T40 (done ++ x :: rest) (done.length : Int) = x := by simp [rd_T40]
theorem fnd_is (l : List S40) (t : Int) : ∀ (rest done : List S40) (i : Nat) (x : S40), l = done ++ rest → fnd rest t done.length = some (i, x) → i < l.length ∧ rd_T40 l (i : Int) = x ∧ x ∈ l
  | [], _, _, _, _, h => by simp [fnd] at h
  | y :: rest, done, i, x, he, h => by
    unfold fnd at h
    split at h
    · simp only [Option.some.injEq, Prod.mk.injEq] at h
      obtain ⟨rfl, rfl⟩ := h
      exact ⟨by rw [he]; simp, by rw [he]; exact rd_mid _ _ _, by rw [he]; simp⟩
    · exact fnd_is l t rest (done ++ [y]) i x (by rw [he]; simp) (by simpa using h)
def tell (o : Option (Nat × S40)) : List Int × Bool := match o with | some (_, x) => (x.f1, true) | none => ([], false)
def place (o : Option (Nat × S40)) : Int := match o with | some (i, _) => i | none => -1
theorem get_run (l : List S40) (t : Int) (hl : l.length ≤ 1000) (hg : ∀ x ∈ l, x.f1.length ≤ 1000000) : ∀ (rest done : List S40), l = done ++ rest → ∃ k, bag_Get.l0 k t l (l.length : Int) (done.length : Int) = some (tell (fnd rest t done.length))
  | [], done, he => ⟨1, by rw [bag_Get.l0, if_neg (by rw [he]; simp)]; rfl⟩
  | x :: rest, done, he => by
    have hll : l.length = done.length + rest.length + 1 := by rw [he]; simp; omega
    have hx : rd_T40 l (done.length : Int) = x := by rw [he]; exact rd_mid _ _ _
    by_cases h : x.f0 = t
    · refine ⟨1, ?_⟩
      rw [bag_Get.l0, if_pos (by omega), if_pos (by omega), if_pos (by omega), hx, if_pos h]
      unfold bag_one.f fnd
      rw [if_pos (hg x (by rw [he]; simp)), if_pos h]
      rfl
    · obtain ⟨k, hk⟩ := get_run l t hl hg rest (done ++ [x]) (by rw [he]; simp)
      refine ⟨k + 1, ?_⟩
      have v : wrap64 ((done.length : Int) + 1) = ((done ++ [x]).length : Int) := by rw [w64 (by omega) (by omega)]; simp
      rw [bag_Get.l0, if_pos (by omega), if_pos (by omega), if_pos (by omega), hx, if_neg h, v, hk]
      simp [fnd, h]
theorem get_is (l : List S40) (t : Int) (hl : l.length ≤ 1000) (hg : ∀ x ∈ l, x.f1.length ≤ 1000000) : Ev fun k => bag_Get.f k l t = some (tell (fnd l t 0)) := by
  obtain ⟨k, hk⟩ := get_run l t hl hg l [] rfl
  exact ev_of (bag_Get.mono l t) ⟨k, by simpa [bag_Get.f] using hk⟩
theorem first_run (l : List S40) (t : Int) (hl : l.length ≤ 1000) : ∀ (rest done : List S40), l = done ++ rest → ∃ k, polyglotlaw07_first.l0 k l t (done.length : Int) = some (place (fnd rest t done.length))
  | [], done, he => ⟨1, by rw [polyglotlaw07_first.l0, if_neg (by rw [he]; simp)]; rfl⟩
  | x :: rest, done, he => by
    have hll : l.length = done.length + rest.length + 1 := by rw [he]; simp; omega
    have hx : rd_T40 l (done.length : Int) = x := by rw [he]; exact rd_mid _ _ _
    by_cases h : x.f0 = t
    · refine ⟨1, ?_⟩
      rw [polyglotlaw07_first.l0, if_pos (by omega), if_pos (by omega), hx, if_pos h]
      unfold fnd
      rw [if_pos h]
      rfl
    · obtain ⟨k, hk⟩ := first_run l t hl rest (done ++ [x]) (by rw [he]; simp)
      refine ⟨k + 1, ?_⟩
      have v : wrap64 ((done.length : Int) + 1) = ((done ++ [x]).length : Int) := by rw [w64 (by omega) (by omega)]; simp
      rw [polyglotlaw07_first.l0, if_pos (by omega), if_pos (by omega), hx, if_neg h, v, hk]
      simp [fnd, h]
theorem first_is (l : List S40) (t : Int) (hl : l.length ≤ 1000) : Ev fun k => polyglotlaw07_first.f k l t = some (place (fnd l t 0)) := by
  obtain ⟨k, hk⟩ := first_run l t hl l [] rfl
  exact ev_of (polyglotlaw07_first.mono l t) ⟨k, by simpa [polyglotlaw07_first.f] using hk⟩
def okc (c : Int) : Prop := (97 ≤ c ∧ c ≤ 122) ∨ (48 ≤ c ∧ c ≤ 57) ∨ c = 45 ∨ c = 46
theorem plain_run (s : ByteArray) (hs : s.size ≤ 16) : ∀ (n i : Nat), s.size - i = n → ∃ k b, known_plain.l0 k s (i : Int) = some b ∧ polyglotlaw07_plain.l0 k s (i : Int) = some b := by
  intro n
  induction n with
  | zero =>
    intro i hi
    exact ⟨1, true, by rw [known_plain.l0, if_neg (by omega)], by rw [polyglotlaw07_plain.l0, if_neg (by omega)]⟩
  | succ n ih =>
    intro i hi
    obtain ⟨k, b, h1, h2⟩ := ih (i + 1) (by omega)
    have v : wrap64 ((i : Int) + 1) = ((i + 1 : Nat) : Int) := by rw [w64 (by omega) (by omega)]; simp
    obtain ⟨c, hc⟩ : ∃ c, c = bt s (i : Int) := ⟨_, rfl⟩
    by_cases ho : okc c
    · refine ⟨k + 1, b, ?_, ?_⟩
      · rw [known_plain.l0, if_pos (by omega), if_pos (by omega), v, h1, ← hc]
        unfold okc at ho
        repeat' split
        all_goals (first | rfl | (exfalso; omega))
      · rw [polyglotlaw07_plain.l0, if_pos (by omega), if_pos (by omega), v, h2, ← hc]
        unfold okc at ho
        repeat' split
        all_goals (first | rfl | (exfalso; omega))
    · refine ⟨k + 1, false, ?_, ?_⟩
      · rw [known_plain.l0, if_pos (by omega), if_pos (by omega), v, h1, ← hc]
        unfold okc at ho
        repeat' split
        all_goals (first | rfl | (exfalso; omega))
      · rw [polyglotlaw07_plain.l0, if_pos (by omega), if_pos (by omega), v, h2, ← hc]
        unfold okc at ho
        repeat' split
        all_goals (first | rfl | (exfalso; omega))
theorem plain_is (s : ByteArray) : ∃ b, (Ev fun k => known_plain.f k s = some b) ∧ (Ev fun k => polyglotlaw07_plain.f k s = some b) := by
  by_cases hs : s.size ≤ 16
  · obtain ⟨k, b, h1, h2⟩ := plain_run s hs s.size 0 (by omega)
    refine ⟨b, ev_of (known_plain.mono s) ⟨k, ?_⟩, ev_of (polyglotlaw07_plain.mono s) ⟨k, ?_⟩⟩
    · unfold known_plain.f; rw [if_neg (by omega)]; exact h1
    · unfold polyglotlaw07_plain.f; rw [if_neg (by omega)]; exact h2
  · exact ⟨false, Ev.all fun k => by unfold known_plain.f; rw [if_pos (by omega)], Ev.all fun k => by unfold polyglotlaw07_plain.f; rw [if_pos (by omega)]⟩
def numB (o : Option (Nat × S40)) (n : Nat) : Int × Bool := match o with | some (_, x) => if x.f1.length = n then (Octet.num x.f1, true) else (0, false) | none => (0, false)
theorem fnd_good {l : List S40} {t : Int} {i : Nat} {x : S40} (h : fnd l t 0 = some (i, x)) : i < l.length ∧ rd_T40 l (i : Int) = x ∧ x ∈ l := fnd_is l t l [] i x rfl h
theorem number_is (l : List S40) (t : Int) (n : Nat) (h1 : 1 ≤ n) (h7 : n ≤ 7) (hl : l.length ≤ 1000) (hg : ∀ x ∈ l, x.f1.length ≤ 1000000) (hb : ∀ x ∈ l, bytesOk x.f1) : Ev fun k => known_number.f k l t (n : Int) = some (numB (fnd l t 0) n) := by
  refine ((get_is l t hl hg).and ⟨1, fun k hk => hk⟩).mono fun k ⟨hk, hk1⟩ => ?_
  obtain ⟨k, rfl⟩ : ∃ m, k = m + 1 := ⟨k - 1, by omega⟩
  unfold known_number.f
  cases hf : fnd l t 0 with
  | none =>
    rw [hf] at hk
    have hk : bag_Get.f (k + 1) l t = some ([], false) := hk
    rw [hk]
    simp only [Option.bind_some, Bool.false_eq_true, if_false]
    rw [known_number.j0, if_pos rfl]
    rfl
  | some p =>
    obtain ⟨i, x⟩ := p
    rw [hf] at hk
    have hk : bag_Get.f (k + 1) l t = some (x.f1, true) := hk
    rw [hk]
    simp only [Option.bind_some, if_true]
    obtain ⟨_, _, hx⟩ := fnd_good hf
    by_cases hlen : x.f1.length = n
    · subst hlen
      rw [known_number.j0, if_neg (by simp)]
      have hr : octet_Read.f x.f1 = some ⟨x.f1, 0, false⟩ := by unfold octet_Read.f; rw [if_pos (hg x hx)]
      rw [hr]
      simp only [Option.bind_some]
      have hn : Octet.numN (x.f1.length : Int) = x.f1.length := by unfold Octet.numN; rw [if_neg (by omega)]
      have hst : Octet.stepF ⟨x.f1, 0, false⟩ (x.f1.length : Int) = (some x.f1, ⟨x.f1, x.f1.length, false⟩) := by
        unfold Octet.stepF; rw [if_neg (by simp), if_neg (by simp)]; simp
      unfold octet_Reader_Num.f
      rw [hn, hst, if_pos (by simpa [bytesOk] using hb x hx)]
      simp only [Option.bind_some, numB, if_true]
      rfl
    · rw [known_number.j0, if_pos (by first | (simp; done) | (simp; omega))]
      simp only [numB, if_neg hlen]
def buildB (o : Option (Nat × S40)) (b : ByteArray → Bool) : ByteArray × Bool := match o with | some (_, x) => if x.f1.length = 0 then (⟨#[]⟩, false) else if b (strOfNums x.f1) = true then (strOfNums x.f1, true) else (⟨#[]⟩, false) | none => (⟨#[]⟩, false)
theorem Few_run (l : List S40) (hl : l.length ≤ 40) (hm : ∀ x ∈ l, x.f1.length ≤ 140737488351232) : ∀ (rest done : List S40) (n : Int), l = done ++ rest → 0 ≤ n → n ≤ 5000 → ∃ k r, polyglotlaw06_Few.l0 k l n (done.length : Int) = some r ∧ (r = true → ∀ x ∈ rest, x.f1.length ≤ 5000)
  | [], done, n, he, _, _ => ⟨1, true, by rw [polyglotlaw06_Few.l0, if_neg (by rw [he]; simp)], by simp⟩
  | x :: rest, done, n, he, h0, h5 => by
    have hll : l.length = done.length + rest.length + 1 := by rw [he]; simp; omega
    have hx : rd_T40 l (done.length : Int) = x := by rw [he]; exact rd_mid _ _ _
    have hmx := hm x (by rw [he]; simp)
    by_cases h4 : n + x.f1.length ≤ 5000
    · obtain ⟨k, r, h1, h2⟩ := Few_run l hl hm rest (done ++ [x]) (n + x.f1.length) (by rw [he]; simp) (by omega) h4
      refine ⟨k + 1, r, ?_, fun hr y hy => ?_⟩
      · have v : wrap64 ((done.length : Int) + 1) = ((done ++ [x]).length : Int) := by rw [w64 (by omega) (by omega)]; simp
        rw [polyglotlaw06_Few.l0, if_pos (by omega), if_pos (by omega), hx, v, w64 (n := n + (x.f1.length : Int)) (by omega) (by omega), if_neg (by omega), h1]
      · rcases List.mem_cons.1 hy with rfl | hy
        · omega
        · exact h2 hr y hy
    · exact ⟨1, false, by rw [polyglotlaw06_Few.l0, if_pos (by omega), if_pos (by omega), hx, w64 (n := n + (x.f1.length : Int)) (by omega) (by omega), if_pos (by omega)], by simp⟩
theorem Few_is (l : List S40) (hm : ∀ x ∈ l, x.f1.length ≤ 140737488351232) : ∃ r, (Ev fun k => polyglotlaw06_Few.f k l = some r) ∧ (r = true → l.length ≤ 40 ∧ ∀ x ∈ l, x.f1.length ≤ 5000) := by
  by_cases hl : l.length ≤ 40
  · obtain ⟨k, r, h1, h2⟩ := Few_run l hl hm l [] 0 rfl (by omega) (by omega)
    exact ⟨r, ev_of (polyglotlaw06_Few.mono l) ⟨k, by unfold polyglotlaw06_Few.f; rw [if_neg (by omega)]; exact h1⟩, fun hr => ⟨hl, h2 hr⟩⟩
  · exact ⟨false, Ev.all fun k => by unfold polyglotlaw06_Few.f; rw [if_pos (by omega)], by simp⟩
theorem build_is (l : List S40) (hl : l.length ≤ 1000) (hg : ∀ x ∈ l, x.f1.length ≤ 1000000) (b : ByteArray → Bool) (hb : ∀ s, Ev fun k => known_plain.f k s = some (b s)) : Ev fun k => known_BuildOf.f k l = some (buildB (fnd l 34 0) b) := by
  cases hf : fnd l 34 0 with
  | none =>
    refine (get_is l 34 hl hg).mono fun k hk => ?_
    rw [hf] at hk
    have hk : bag_Get.f k l 34 = some ([], false) := hk
    unfold known_BuildOf.f
    rw [hk]
    simp [buildB]
  | some p =>
    obtain ⟨i, x⟩ := p
    refine ((get_is l 34 hl hg).and (hb (strOfNums x.f1))).mono fun k ⟨hk, hp⟩ => ?_
    rw [hf] at hk
    have hk : bag_Get.f k l 34 = some (x.f1, true) := hk
    unfold known_BuildOf.f
    rw [hk]
    simp only [Option.bind_some, if_true]
    by_cases h0 : x.f1.length = 0
    · rw [if_pos (by omega)]; simp [buildB, h0]
    · rw [if_neg (by omega), hp]
      simp only [Option.bind_some, buildB, if_neg h0]
      cases b (strOfNums x.f1) <;> simp
theorem empty_list : (⟨#[]⟩ : ByteArray).toList = [] := by decide +kernel
theorem j4_none (l : List S40) : Ev fun k => polyglotlaw07_KnownReads.j4 k l ⟨#[]⟩ false (-1) false = some true := by
  refine ⟨1, fun k hk => ?_⟩
  obtain ⟨k, rfl⟩ : ∃ m, k = m + 1 := ⟨k - 1, by omega⟩
  rw [polyglotlaw07_KnownReads.j4, if_neg (by simp), if_neg (by simp), if_pos empty_list]
  rfl
theorem j4_some (l : List S40) (b : ByteArray → Bool) (i : Nat) (x : S40) (hi : i < l.length) (hx : rd_T40 l (i : Int) = x) : Ev fun k => polyglotlaw07_KnownReads.j4 k l (buildB (some (i, x)) b).1 (buildB (some (i, x)) b).2 (i : Int) (decide (x.f1.length ≠ 0) && b (strOfNums x.f1)) = some true := by
  refine ⟨1, fun k hk => ?_⟩
  obtain ⟨k, rfl⟩ : ∃ m, k = m + 1 := ⟨k - 1, by omega⟩
  rw [polyglotlaw07_KnownReads.j4]
  by_cases h0 : x.f1.length = 0
  · have e : buildB (some (i, x)) b = (⟨#[]⟩, false) := by simp [buildB, h0]
    rw [e, if_neg (by simp [h0]), if_neg (by simp), if_pos empty_list]
    rfl
  · cases hbb : b (strOfNums x.f1) with
    | false =>
      have e : buildB (some (i, x)) b = (⟨#[]⟩, false) := by simp [buildB, h0, hbb]
      rw [e, if_neg (by simp), if_neg (by simp), if_pos empty_list]
      rfl
    | true =>
      have e : buildB (some (i, x)) b = (strOfNums x.f1, true) := by simp [buildB, h0, hbb]
      rw [e, if_pos (by simp [h0]), if_pos rfl, if_pos (by omega), if_pos (by omega), hx, if_pos rfl]
      rfl
theorem j3_ok (l : List S40) (hl : l.length ≤ 1000) (b : ByteArray → Bool) (hb : ∀ s, Ev fun k => polyglotlaw07_plain.f k s = some (b s)) : Ev fun k => polyglotlaw07_KnownReads.j3 k l (buildB (fnd l 34 0) b).1 (buildB (fnd l 34 0) b).2 = some true := by
  have h1 := first_is l 34 hl
  cases hf : fnd l 34 0 with
  | none =>
    rw [hf] at h1
    refine ((j4_none l).and h1).succ fun k ⟨a, c⟩ => ?_
    rw [polyglotlaw07_KnownReads.j3, c]
    exact a
  | some p =>
    obtain ⟨i, x⟩ := p
    obtain ⟨hi, hx, _⟩ := fnd_good hf
    rw [hf] at h1
    refine (((j4_some l b i x hi hx).and h1).and (hb (strOfNums x.f1))).succ fun k ⟨⟨a, c⟩, d⟩ => ?_
    rw [polyglotlaw07_KnownReads.j3, c]
    simp only [Option.bind_some, place]
    rw [if_pos (by omega), if_pos (by omega), if_pos (by omega), hx]
    by_cases h0 : x.f1.length = 0
    · rw [if_neg (by omega)]
      rw [show (decide (x.f1.length ≠ 0) && b (strOfNums x.f1)) = false by simp [h0]] at a
      exact a
    · rw [if_pos (by omega), d]
      rw [show (decide (x.f1.length ≠ 0) && b (strOfNums x.f1)) = b (strOfNums x.f1) by simp [h0]] at a
      exact a
theorem num2 {l : List Int} (h : l.length = 2) (hb : bytesOk l) : Octet.num l = wrap64 (wrap64 (wrap64 (rd l 0) * 256) + wrap64 (rd l 1)) := by
  match l, h with
  | [a, b], _ =>
    have ha := hb a (by simp)
    have hbb := hb b (by simp)
    rw [show rd [a, b] 0 = a from rfl, show rd [a, b] 1 = b from rfl, w64 (n := a) (by omega) (by omega), w64 (n := b) (by omega) (by omega), w64 (n := a * 256) (by omega) (by omega), w64 (by omega) (by omega)]
    simp [Octet.num]
theorem num1 {l : List Int} (h : l.length = 1) (hb : bytesOk l) : Octet.num l = wrap64 (rd l 0) := by
  match l, h with
  | [a], _ =>
    have ha := hb a (by simp)
    rw [show rd [a] 0 = a from rfl, w64 (n := a) (by omega) (by omega)]
    simp [Octet.num]
theorem j1_ok (l : List S40) (hl : l.length ≤ 1000) (hb : ∀ x ∈ l, bytesOk x.f1) (t : ByteArray) (tb : Bool) (h3 : Ev fun k => polyglotlaw07_KnownReads.j3 k l t tb = some true) : Ev fun k => polyglotlaw07_KnownReads.j1 k l (numB (fnd l 33 0) 2).1 (numB (fnd l 33 0) 2).2 t tb = some true := by
  have h1 := first_is l 33 hl
  cases hf : fnd l 33 0 with
  | none =>
    rw [hf] at h1
    have h2 : Ev fun k => polyglotlaw07_KnownReads.j2 k l 0 false t tb (-1) false = some true := h3.succ fun k hk => by
      rw [polyglotlaw07_KnownReads.j2, if_neg (by simp), if_neg (by simp), if_pos rfl, hk]
    refine (h2.and h1).succ fun k ⟨a, c⟩ => ?_
    rw [polyglotlaw07_KnownReads.j1, c]
    exact a
  | some p =>
    obtain ⟨i, x⟩ := p
    obtain ⟨hi, hx, hm⟩ := fnd_good hf
    rw [hf] at h1
    have h2 : Ev fun k => polyglotlaw07_KnownReads.j2 k l (numB (some (i, x)) 2).1 (numB (some (i, x)) 2).2 t tb (i : Int) ((x.f1.length : Int) == 2) = some true := h3.succ fun k hk => by
      rw [polyglotlaw07_KnownReads.j2]
      by_cases h2 : x.f1.length = 2
      · have e : numB (some (i, x)) 2 = (Octet.num x.f1, true) := by simp [numB, h2]
        rw [e, if_pos (by simp; omega), if_pos rfl, if_pos (by omega), if_pos (by omega), hx, if_pos (by omega), if_pos (by omega), if_pos (num2 h2 (hb x hm)), hk]
      · have e : numB (some (i, x)) 2 = (0, false) := by simp [numB, h2]
        rw [e, if_neg (by simp; omega), if_neg (by simp), if_pos rfl, hk]
    refine (h2.and h1).succ fun k ⟨a, c⟩ => ?_
    rw [polyglotlaw07_KnownReads.j1, c]
    simp only [Option.bind_some, place]
    rw [if_pos (by omega), if_pos (by omega), if_pos (by omega), hx]
    exact a
theorem KnownReads (l : List S40) (hlm : l.length ≤ maxLen) (hw : ∀ v ∈ l, ((Lit.int .i64 v.f0).wf = true ∧ (v.f1.length ≤ maxLen ∧ ∀ v4 ∈ v.f1, (Lit.int .u8 v4).wf = true))) (hz : ∀ v ∈ l, v.f1.length ≤ 140737488351232) : ∃ k, polyglotlaw07_KnownReads.f k l = some true := by
  have hb : ∀ x ∈ l, bytesOk x.f1 := fun x hx c hc => by
    have := (hw x hx).2.2 c hc
    simp [Lit.wf, IntKind.min, IntKind.max, IntKind.signed, IntKind.bits] at this
    omega
  obtain ⟨r, hr, hr2⟩ := Few_is l hz
  cases r with
  | false =>
    obtain ⟨n, hn⟩ := hr
    exact ⟨n, by unfold polyglotlaw07_KnownReads.f; rw [hn n (Nat.le_refl _)]; simp [polyglotlaw07_awake.f]⟩
  | true =>
    obtain ⟨h40, h5⟩ := hr2 rfl
    have hl : l.length ≤ 1000 := by omega
    have hg : ∀ x ∈ l, x.f1.length ≤ 1000000 := fun x hx => by have := h5 x hx; omega
    have hpl : ∀ s, ∃ b, (Ev fun k => known_plain.f k s = some b) ∧ (Ev fun k => polyglotlaw07_plain.f k s = some b) := plain_is
    obtain ⟨b, hb12⟩ := Classical.axiomOfChoice hpl
    have hB := build_is l hl hg b (fun s => (hb12 s).1)
    have h3 := j3_ok l hl b (fun s => (hb12 s).2)
    have h1 := j1_ok l hl hb _ _ h3
    have hZ : Ev fun k => known_ZoneOf.f k l = some (numB (fnd l 32 0) 1) := (number_is l 32 1 (by omega) (by omega) hl hg hb).mono fun k hk => by
      unfold known_ZoneOf.f
      have hk : known_number.f k l 32 1 = some (numB (fnd l 32 0) 1) := hk
      rw [hk]; rfl
    have hL : Ev fun k => known_LoadOf.f k l = some (numB (fnd l 33 0) 2) := (number_is l 33 2 (by omega) (by omega) hl hg hb).mono fun k hk => by
      unfold known_LoadOf.f
      have hk : known_number.f k l 33 2 = some (numB (fnd l 33 0) 2) := hk
      rw [hk]; rfl
    have hF := first_is l 32 hl
    have fin : Ev fun k => polyglotlaw07_KnownReads.f k l = some true := by
      cases hf : fnd l 32 0 with
      | none =>
        rw [hf] at hZ hF
        have h0 : Ev fun k => polyglotlaw07_KnownReads.j0 k l 0 false (numB (fnd l 33 0) 2).1 (numB (fnd l 33 0) 2).2 (buildB (fnd l 34 0) b).1 (buildB (fnd l 34 0) b).2 (-1) false = some true := h1.succ fun k hk => by
          rw [polyglotlaw07_KnownReads.j0, if_neg (by simp), if_neg (by simp), if_pos rfl, hk]
        refine ((((hr.and hZ).and hL).and hB).and (hF.and h0)).mono fun k ⟨⟨⟨⟨a, c⟩, d⟩, e⟩, f, g⟩ => ?_
        unfold polyglotlaw07_KnownReads.f
        rw [a]
        simp only [Option.bind_some, if_true]
        rw [c]
        simp only [Option.bind_some]
        rw [d]
        simp only [Option.bind_some]
        rw [e]
        simp only [Option.bind_some]
        rw [f]
        exact g
      | some p =>
        obtain ⟨i, x⟩ := p
        obtain ⟨hi, hx, hm⟩ := fnd_good hf
        rw [hf] at hZ hF
        have h0 : Ev fun k => polyglotlaw07_KnownReads.j0 k l (numB (some (i, x)) 1).1 (numB (some (i, x)) 1).2 (numB (fnd l 33 0) 2).1 (numB (fnd l 33 0) 2).2 (buildB (fnd l 34 0) b).1 (buildB (fnd l 34 0) b).2 (i : Int) ((x.f1.length : Int) == 1) = some true := h1.succ fun k hk => by
          rw [polyglotlaw07_KnownReads.j0]
          by_cases h2 : x.f1.length = 1
          · have e : numB (some (i, x)) 1 = (Octet.num x.f1, true) := by simp [numB, h2]
            rw [e, if_pos (by simp; omega), if_pos rfl, if_pos (by omega), if_pos (by omega), hx, if_pos (by omega), if_pos (num1 h2 (hb x hm)), hk]
          · have e : numB (some (i, x)) 1 = (0, false) := by simp [numB, h2]
            rw [e, if_neg (by simp; omega), if_neg (by simp), if_pos rfl, hk]
        refine ((((hr.and hZ).and hL).and hB).and (hF.and h0)).mono fun k ⟨⟨⟨⟨a, c⟩, d⟩, e⟩, f, g⟩ => ?_
        unfold polyglotlaw07_KnownReads.f
        rw [a]
        simp only [Option.bind_some, if_true]
        rw [c]
        simp only [Option.bind_some]
        rw [d]
        simp only [Option.bind_some]
        rw [e]
        simp only [Option.bind_some]
        rw [f]
        simp only [Option.bind_some, place]
        rw [if_pos (by omega), if_pos (by omega), if_pos (by omega), hx]
        exact g
    obtain ⟨n, hn⟩ := fin
    exact ⟨n, hn n (Nat.le_refl _)⟩
end Go.Proofs.Ytdamjkfggmmmeab.Pure
