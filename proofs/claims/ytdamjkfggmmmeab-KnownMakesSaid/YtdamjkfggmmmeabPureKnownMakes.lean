/- Plain laws of items, and what they come to. -/
import Derived.Test.YtdamjkfggmmmeabPKmx3
namespace Go.Proofs.Ytdamjkfggmmmeab.Pure
open Go.RowKit Go.Proofs.Ytdamjkfggmmmeab.PKm Go.Proofs.YtdamjkfggmmmeabW.PrintWords Go.Proofs.YtdamjkfggmmmeabW.PrintLast Go.Proofs.YtdamjkfggmmmeabW.PrintMore
set_option linter.unusedVariables false
set_option linter.unusedSimpArgs false
theorem w64 {n : Int} (h0 : -9223372036854775808 ≤ n) (h1 : n < 9223372036854775808) : wrap64 n = n := by unfold wrap64; omega
theorem leo_up {α : Type} {f : Nat → Option α} (h : ∀ k, LeO (f k) (f (k + 1))) {k : Nat} {r : α} (hk : f k = some r) : ∀ d, f (k + d) = some r
  | 0 => hk
  | d + 1 => h _ _ (leo_up h hk d)
/-- From some number of rounds on. -/
def Ev (P : Nat → Prop) : Prop := ∃ n, ∀ k, n ≤ k → P k
theorem ev_of {α : Type} {f : Nat → Option α} (h : ∀ k, LeO (f k) (f (k + 1))) {r : α} (hk : ∃ k, f k = some r) : Ev fun k => f k = some r := by
  obtain ⟨n, hn⟩ := hk
  exact ⟨n, fun k hk => by have := leo_up h hn (k - n); rwa [show n + (k - n) = k by omega] at this⟩
theorem Ev.and {P Q : Nat → Prop} (h : Ev P) (k : Ev Q) : Ev fun n => P n ∧ Q n := by
  obtain ⟨a, ha⟩ := h
  obtain ⟨b, hb⟩ := k
  exact ⟨a + b, fun n hn => ⟨ha n (by omega), hb n (by omega)⟩⟩
theorem Ev.succ {P Q : Nat → Prop} (h : Ev P) (hq : ∀ k, P k → Q (k + 1)) : Ev Q := by
  obtain ⟨a, ha⟩ := h
  exact ⟨a + 1, fun k hk => by
    obtain ⟨m, rfl⟩ : ∃ m, k = m + 1 := ⟨k - 1, by omega⟩
    exact hq m (ha m (by omega))⟩
theorem Ev.mono {P Q : Nat → Prop} (h : Ev P) (hq : ∀ k, P k → Q k) : Ev Q := by
  obtain ⟨a, ha⟩ := h
  exact ⟨a, fun k hk => hq k (ha k hk)⟩
theorem Ev.all {P : Nat → Prop} (h : ∀ k, P k) : Ev P := ⟨0, fun k _ => h k⟩
def bytesOk (l : List Int) : Prop := ∀ c ∈ l, 0 ≤ c ∧ c ≤ 255
/-- The first field with a tag, and its place. -/
def fnd : List S40 → Int → Nat → Option (Nat × S40)
  | [], _, _ => none
  | x :: r, t, i => if x.f0 = t then some (i, x) else fnd r t (i + 1)
theorem rd_mid (done rest : List S40) (x : S40) : rd_T40 (done ++ x :: rest) (done.length : Int) = x := by simp [rd_T40]
theorem fnd_is (l : List S40) (t : Int) : ∀ (rest done : List S40) (i : Nat) (x : S40), l = done ++ rest → fnd rest t done.length = some (i, x) → i < l.length ∧ rd_T40 l (i : Int) = x ∧ x ∈ l
  | [], _, _, _, _, h => by simp [fnd] at h
  | y :: rest, done, i, x, he, h => by
    unfold fnd at h
    split at h
    · simp only [Option.some.injEq, Prod.mk.injEq] at h
      obtain ⟨rfl, rfl⟩ := h
      exact ⟨by rw [he]; simp, by rw [he]; exact rd_mid _ _ _, by rw [he]; simp⟩
    · exact fnd_is l t rest (done ++ [y]) i x (by rw [he]; simp) (by simpa using h)
def tell (o : Option (Nat × S40)) : List Int × Bool := match o with | some (_, x) => (x.f1, true) | none => ([], false)
def place (o : Option (Nat × S40)) : Int := match o with | some (i, _) => i | none => -1
theorem get_run (l : List S40) (t : Int) (hl : l.length ≤ 1000) (hg : ∀ x ∈ l, x.f1.length ≤ 1000000) : ∀ (rest done : List S40), l = done ++ rest → ∃ k, bag_Get.l0 k t l (l.length : Int) (done.length : Int) = some (tell (fnd rest t done.length))
  | [], done, he => ⟨1, by rw [bag_Get.l0, if_neg (by rw [he]; simp)]; rfl⟩
  | x :: rest, done, he => by
    have hll : l.length = done.length + rest.length + 1 := by rw [he]; simp; omega
    have hx : rd_T40 l (done.length : Int) = x := by rw [he]; exact rd_mid _ _ _
    by_cases h : x.f0 = t
    · refine ⟨1, ?_⟩
      rw [bag_Get.l0, if_pos (by omega), if_pos (by omega), if_pos (by omega), hx, if_pos h]
      unfold bag_one.f fnd
      rw [if_pos (hg x (by rw [he]; simp)), if_pos h]
      rfl
    · obtain ⟨k, hk⟩ := get_run l t hl hg rest (done ++ [x]) (by rw [he]; simp)
      refine ⟨k + 1, ?_⟩
      have v : wrap64 ((done.length : Int) + 1) = ((done ++ [x]).length : Int) := by rw [w64 (by omega) (by omega)]; simp
      rw [bag_Get.l0, if_pos (by omega), if_pos (by omega), if_pos (by omega), hx, if_neg h, v, hk]
      simp [fnd, h]
theorem get_is (l : List S40) (t : Int) (hl : l.length ≤ 1000) (hg : ∀ x ∈ l, x.f1.length ≤ 1000000) : Ev fun k => bag_Get.f k l t = some (tell (fnd l t 0)) := by
  obtain ⟨k, hk⟩ := get_run l t hl hg l [] rfl
  exact ev_of (bag_Get.mono l t) ⟨k, by simpa [bag_Get.f] using hk⟩
def okc (c : Int) : Prop := (97 ≤ c ∧ c ≤ 122) ∨ (48 ≤ c ∧ c ≤ 57) ∨ c = 45 ∨ c = 46
theorem plain_run (s : ByteArray) (hs : s.size ≤ 16) : ∀ (n i : Nat), s.size - i = n → ∃ k b, known_plain.l0 k s (i : Int) = some b ∧ polyglotlaw07_plain.l0 k s (i : Int) = some b := by
  intro n
  induction n with
  | zero =>
    intro i hi
    exact ⟨1, true, by rw [known_plain.l0, if_neg (by omega)], by rw [polyglotlaw07_plain.l0, if_neg (by omega)]⟩
  | succ n ih =>
    intro i hi
    obtain ⟨k, b, h1, h2⟩ := ih (i + 1) (by omega)
    have v : wrap64 ((i : Int) + 1) = ((i + 1 : Nat) : Int) := by rw [w64 (by omega) (by omega)]; simp
    obtain ⟨c, hc⟩ : ∃ c, c = bt s (i : Int) := ⟨_, rfl⟩
    by_cases ho : okc c
    · refine ⟨k + 1, b, ?_, ?_⟩
      · rw [known_plain.l0, if_pos (by omega), if_pos (by omega), v, h1, ← hc]
        unfold okc at ho
        repeat' split
        all_goals (first | rfl | (exfalso; omega))
      · rw [polyglotlaw07_plain.l0, if_pos (by omega), if_pos (by omega), v, h2, ← hc]
        unfold okc at ho
        repeat' split
        all_goals (first | rfl | (exfalso; omega))
    · refine ⟨k + 1, false, ?_, ?_⟩
      · rw [known_plain.l0, if_pos (by omega), if_pos (by omega), v, h1, ← hc]
        unfold okc at ho
        repeat' split
        all_goals (first | rfl | (exfalso; omega))
      · rw [polyglotlaw07_plain.l0, if_pos (by omega), if_pos (by omega), v, h2, ← hc]
        unfold okc at ho
        repeat' split
        all_goals (first | rfl | (exfalso; omega))
theorem plain_is (s : ByteArray) : ∃ b, (Ev fun k => known_plain.f k s = some b) ∧ (Ev fun k => polyglotlaw07_plain.f k s = some b) := by
  by_cases hs : s.size ≤ 16
  · obtain ⟨k, b, h1, h2⟩ := plain_run s hs s.size 0 (by omega)
    refine ⟨b, ev_of (known_plain.mono s) ⟨k, ?_⟩, ev_of (polyglotlaw07_plain.mono s) ⟨k, ?_⟩⟩
    · unfold known_plain.f; rw [if_neg (by omega)]; exact h1
    · unfold polyglotlaw07_plain.f; rw [if_neg (by omega)]; exact h2
  · exact ⟨false, Ev.all fun k => by unfold known_plain.f; rw [if_pos (by omega)], Ev.all fun k => by unfold polyglotlaw07_plain.f; rw [if_pos (by omega)]⟩
def numB (o : Option (Nat × S40)) (n : Nat) : Int × Bool := match o with | some (_, x) => if x.f1.length = n then (Octet.num x.f1, true) else (0, false) | none => (0, false)
theorem fnd_good {l : List S40} {t : Int} {i : Nat} {x : S40} (h : fnd l t 0 = some (i, x)) : i < l.length ∧ rd_T40 l (i : Int) = x ∧ x ∈ l := fnd_is l t l [] i x rfl h
theorem number_is (l : List S40) (t : Int) (n : Nat) (h1 : 1 ≤ n) (h7 : n ≤ 7) (hl : l.length ≤ 1000) (hg : ∀ x ∈ l, x.f1.length ≤ 1000000) (hb : ∀ x ∈ l, bytesOk x.f1) : Ev fun k => known_number.f k l t (n : Int) = some (numB (fnd l t 0) n) := by
  refine ((get_is l t hl hg).and ⟨1, fun k hk => hk⟩).mono fun k ⟨hk, hk1⟩ => ?_
  obtain ⟨k, rfl⟩ : ∃ m, k = m + 1 := ⟨k - 1, by omega⟩
  unfold known_number.f
  cases hf : fnd l t 0 with
  | none =>
    rw [hf] at hk
    have hk : bag_Get.f (k + 1) l t = some ([], false) := hk
    rw [hk]
    simp only [Option.bind_some, Bool.false_eq_true, if_false]
    rw [known_number.j0, if_pos rfl]
    rfl
  | some p =>
    obtain ⟨i, x⟩ := p
    rw [hf] at hk
    have hk : bag_Get.f (k + 1) l t = some (x.f1, true) := hk
    rw [hk]
    simp only [Option.bind_some, if_true]
    obtain ⟨_, _, hx⟩ := fnd_good hf
    by_cases hlen : x.f1.length = n
    · subst hlen
      rw [known_number.j0, if_neg (by simp)]
      have hr : octet_Read.f x.f1 = some ⟨x.f1, 0, false⟩ := by unfold octet_Read.f; rw [if_pos (hg x hx)]
      rw [hr]
      simp only [Option.bind_some]
      have hn : Octet.numN (x.f1.length : Int) = x.f1.length := by unfold Octet.numN; rw [if_neg (by omega)]
      have hst : Octet.stepF ⟨x.f1, 0, false⟩ (x.f1.length : Int) = (some x.f1, ⟨x.f1, x.f1.length, false⟩) := by
        unfold Octet.stepF; rw [if_neg (by simp), if_neg (by simp)]; simp
      unfold octet_Reader_Num.f
      rw [hn, hst, if_pos (by simpa [bytesOk] using hb x hx)]
      simp only [Option.bind_some, numB, if_true]
      rfl
    · rw [known_number.j0, if_pos (by first | (simp; done) | (simp; omega))]
      simp only [numB, if_neg hlen]
def buildB (o : Option (Nat × S40)) (b : ByteArray → Bool) : ByteArray × Bool := match o with | some (_, x) => if x.f1.length = 0 then (⟨#[]⟩, false) else if b (strOfNums x.f1) = true then (strOfNums x.f1, true) else (⟨#[]⟩, false) | none => (⟨#[]⟩, false)
theorem build_is (l : List S40) (hl : l.length ≤ 1000) (hg : ∀ x ∈ l, x.f1.length ≤ 1000000) (b : ByteArray → Bool) (hb : ∀ s, Ev fun k => known_plain.f k s = some (b s)) : Ev fun k => known_BuildOf.f k l = some (buildB (fnd l 34 0) b) := by
  cases hf : fnd l 34 0 with
  | none =>
    refine (get_is l 34 hl hg).mono fun k hk => ?_
    rw [hf] at hk
    have hk : bag_Get.f k l 34 = some ([], false) := hk
    unfold known_BuildOf.f
    rw [hk]
    simp [buildB]
  | some p =>
    obtain ⟨i, x⟩ := p
    refine ((get_is l 34 hl hg).and (hb (strOfNums x.f1))).mono fun k ⟨hk, hp⟩ => ?_
    rw [hf] at hk
    have hk : bag_Get.f k l 34 = some (x.f1, true) := hk
    unfold known_BuildOf.f
    rw [hk]
    simp only [Option.bind_some, if_true]
    by_cases h0 : x.f1.length = 0
    · rw [if_pos (by omega)]; simp [buildB, h0]
    · rw [if_neg (by omega), hp]
      simp only [Option.bind_some, buildB, if_neg h0]
      cases b (strOfNums x.f1) <;> simp
theorem empty_list : (⟨#[]⟩ : ByteArray).toList = [] := by decide +kernel
theorem size_zero {s : ByteArray} (h : s.size = 0) : s = ⟨#[]⟩ := by
  obtain ⟨d⟩ := s
  have : d.size = 0 := h
  rw [Array.eq_empty_of_size_eq_zero this]
theorem toList_iff (s : ByteArray) : s.toList = [] ↔ s.size = 0 := by
  constructor
  · intro h
    by_cases h0 : s.size = 0
    · exact h0
    · have := tl_some h0
      rw [h] at this; cases this
  · intro h; rw [size_zero h]; exact empty_list
theorem bytes_back (s : ByteArray) : strOfNums (byteL s) = s := by
  obtain ⟨d⟩ := s
  simp [strOfNums, byteL, List.map_map, Function.comp_def]
def zR (z : Int) : Int × Bool := if 0 ≤ z then (z, true) else (0, false)
def bR (s : ByteArray) : ByteArray × Bool := if s.size ≠ 0 then (s, true) else (⟨#[]⟩, false)
theorem l0_end (z ld : Int) (s : ByteArray) (L : List S40) (n : Int) (k : Nat) (i : Int) (hi : (L.length : Int) ≤ i) (hn : (L.length : Int) = n) :
    polyglotlaw07_KnownMakes.l0 (k + 1) z ld s L 0 (zR z).1 (zR z).2 (zR ld).1 (zR ld).2 (bR s).1 (bR s).2 n i = some true := by
  have e1 : ((bR s).2 == (s.toList != ([] : List UInt8))) = true := by
    unfold bR
    by_cases h : s.size = 0
    · rw [if_neg (by simpa using h), (toList_iff s).2 h]; rfl
    · rw [if_pos h]
      have : s.toList ≠ [] := fun e => h ((toList_iff s).1 e)
      simp [this]
  have e2 : (bR s).1.toList = s.toList := by
    unfold bR
    by_cases h : s.size = 0
    · rw [if_neg (by simpa using h), (toList_iff s).2 h]; exact empty_list
    · rw [if_pos h]
  rw [polyglotlaw07_KnownMakes.l0, if_neg (by omega), if_pos rfl, if_pos hn, e1, e2]
  unfold polyglotlaw07_awake.f
  by_cases hz : 0 ≤ z
  · have ez : zR z = (z, true) := by simp [zR, hz]
    by_cases hl : 0 ≤ ld
    · have el : zR ld = (ld, true) := by simp [zR, hl]
      simp [ez, el, hz, hl]
    · have el : zR ld = (0, false) := by simp [zR, hl]
      simp [ez, el, hz, hl]
  · have ez : zR z = (0, false) := by simp [zR, hz]
    by_cases hl : 0 ≤ ld
    · have el : zR ld = (ld, true) := by simp [zR, hl]
      simp [ez, el, hz, hl]
    · have el : zR ld = (0, false) := by simp [zR, hl]
      simp [ez, el, hz, hl]
theorem l0_run (z ld : Int) (s : ByteArray) (L : List S40) (n : Int) (hn : (L.length : Int) = n) (hL : L.length ≤ 3) (hs : ∀ i : Nat, i + 1 < L.length → (rd_T40 L (i : Int)).f0 < (rd_T40 L ((i + 1 : Nat) : Int)).f0) : ∀ (d i : Nat), d + i = 4 → 1 ≤ i →
    ∃ k, polyglotlaw07_KnownMakes.l0 k z ld s L 0 (zR z).1 (zR z).2 (zR ld).1 (zR ld).2 (bR s).1 (bR s).2 n (i : Int) = some true
  | 0, i, hd, h1 => ⟨1, l0_end z ld s L n 0 _ (by omega) hn⟩
  | d + 1, i, hd, h1 => by
    by_cases hi : i < L.length
    · obtain ⟨k, hk⟩ := l0_run z ld s L n hn hL hs d (i + 1) (by omega) (by omega)
      refine ⟨k + 1, ?_⟩
      obtain ⟨j, rfl⟩ : ∃ j, i = j + 1 := ⟨i - 1, by omega⟩
      have v1 : wrap64 (((j + 1 : Nat) : Int) - 1) = (j : Int) := by rw [w64 (by omega) (by omega)]; omega
      have v2 : wrap64 (((j + 1 : Nat) : Int) + 1) = ((j + 1 + 1 : Nat) : Int) := by rw [w64 (by omega) (by omega)]; omega
      have := hs j hi
      rw [polyglotlaw07_KnownMakes.l0, v1, v2, if_pos (by omega), if_pos (by omega), if_pos (by omega), if_pos (by omega), if_neg (by omega), hk]
    · exact ⟨1, l0_end z ld s L n 0 _ (by omega) hn⟩
theorem made (z ld : Int) (s : ByteArray) (hz1 : z ≤ 255) (hl1 : ld ≤ 65535) (b : ByteArray → Bool) (hb : b s = true) : ∃ L, L = zoneL z ++ loadL ld ++ buildL s ∧ L.length ≤ 3 ∧ (∀ i : Nat, i + 1 < L.length → (rd_T40 L (i : Int)).f0 < (rd_T40 L ((i + 1 : Nat) : Int)).f0) ∧
    numB (fnd L 32 0) 1 = zR z ∧ numB (fnd L 33 0) 2 = zR ld ∧ buildB (fnd L 34 0) b = bR s ∧ (∀ x ∈ L, x.f1.length ≤ s.size + 2) ∧ (∀ x ∈ L, bytesOk x.f1) ∧ (L.length : Int) = (if 0 ≤ z then 1 else 0) + (if 0 ≤ ld then 1 else 0) + (if s.size ≠ 0 then 1 else 0) := by
  have hbl := byteL_len s
  have hbs := bytes_back s
  have hby : bytesOk (byteL s) := fun c hc => by
    simp only [byteL, List.mem_map] at hc
    obtain ⟨u, _, rfl⟩ := hc
    have := u.toNat_lt
    omega
  have n1 : Octet.num [z] = z := by simp [Octet.num]
  have n2 : Octet.num [ld / 256, ld % 256] = ld := by simp [Octet.num]; omega
  refine ⟨_, rfl, ?_⟩
  have hrd : ∀ (x y : S40) (r : List S40), rd_T40 (x :: y :: r) ((0 : Nat) : Int) = x := fun _ _ _ => rfl
  have hrd1 : ∀ (x y : S40) (r : List S40), rd_T40 (x :: y :: r) ((0 + 1 : Nat) : Int) = y := fun _ _ _ => rfl
  have hrd2 : ∀ (x y t : S40) (r : List S40), rd_T40 (x :: y :: t :: r) ((1 : Nat) : Int) = y := fun _ _ _ _ => rfl
  have hrd3 : ∀ (x y t : S40) (r : List S40), rd_T40 (x :: y :: t :: r) ((1 + 1 : Nat) : Int) = t := fun _ _ _ _ => rfl
  have two : ∀ x y : S40, x.f0 < y.f0 → ∀ i : Nat, i + 1 < [x, y].length → (rd_T40 [x, y] (i : Int)).f0 < (rd_T40 [x, y] ((i + 1 : Nat) : Int)).f0 := fun x y h i hi => by
    have : i = 0 := by simp at hi; omega
    subst this; exact h
  have three : ∀ x y t : S40, x.f0 < y.f0 → y.f0 < t.f0 → ∀ i : Nat, i + 1 < [x, y, t].length → (rd_T40 [x, y, t] (i : Int)).f0 < (rd_T40 [x, y, t] ((i + 1 : Nat) : Int)).f0 := fun x y t h h' i hi => by
    have : i = 0 ∨ i = 1 := by simp at hi; omega
    rcases this with rfl | rfl
    · exact h
    · exact h'
  by_cases z0 : 0 ≤ z <;> by_cases l0 : 0 ≤ ld <;> by_cases s0 : s.size = 0
  all_goals
    simp only [zoneL, loadL, buildL, z0, l0, s0, if_true, if_false, List.nil_append, List.append_nil, List.singleton_append, List.cons_append, ne_eq, not_true_eq_false, not_false_eq_true]
    refine ⟨by simp, ?_, ?_, ?_, ?_, ?_, ?_, by simp⟩
    · first
        | (refine three _ _ _ ?_ ?_ <;> simp; done)
        | (refine two _ _ ?_; simp; done)
        | (intro i hi; simp at hi; done)
    · simp [fnd, numB, zR, z0, n1]
    · simp [fnd, numB, zR, l0, n2]
    · simp [fnd, buildB, bR, s0, hbl, hbs, hb]
    · intro x hx
      first
        | (simp at hx; done)
        | (simp at hx; rcases hx with rfl | rfl | rfl <;> simp <;> omega)
        | (simp at hx; rcases hx with rfl | rfl <;> simp <;> omega)
        | (simp at hx; subst hx; simp; done)
        | (simp at hx; subst hx; simp; omega)
    · intro x hx c hc
      first
        | (simp at hx; done)
        | (simp at hx; rcases hx with rfl | rfl | rfl <;> first | exact hby c hc | (simp at hc; omega))
        | (simp at hx; rcases hx with rfl | rfl <;> first | exact hby c hc | (simp at hc; omega))
        | (simp at hx; subst hx; first | exact hby c hc | (simp at hc; omega))
theorem KnownMakes : polyglotlaw07_KnownMakes.Pure := by
  intro z ld s _ _ hsm
  by_cases h40 : s.size ≤ 40
  · by_cases hr : z < -1 ∨ z > 255 ∨ ld < -1 ∨ ld > 65535
    · refine ⟨2, ?_⟩
      unfold polyglotlaw07_KnownMakes.f known_Make.f
      rw [if_neg (by omega), if_pos hr]
      simp only [Option.bind_some]
      have hj : ∀ b, b = true → polyglotlaw07_KnownMakes.j0 2 z ld s [] 5 b = some true := fun b hb => by
        subst hb
        rw [polyglotlaw07_KnownMakes.j0, if_pos rfl, if_pos (by simp), if_pos rfl]; rfl
      by_cases a1 : z < -1
      · rw [if_pos a1]; exact hj _ rfl
      · by_cases a2 : z > 255
        · rw [if_neg a1, if_pos a2]; exact hj _ rfl
        · by_cases a3 : ld < -1
          · rw [if_neg a1, if_neg a2, if_pos a3]; exact hj _ rfl
          · rw [if_neg a1, if_neg a2, if_neg a3]; exact hj _ (by simp; omega)
    · have hpl : ∀ s, ∃ b, (Ev fun k => known_plain.f k s = some b) ∧ (Ev fun k => polyglotlaw07_plain.f k s = some b) := plain_is
      obtain ⟨b, hb12⟩ := Classical.axiomOfChoice hpl
      have toF : ∀ k r, (known_Make.f k z ld s).bind (fun bt => polyglotlaw07_KnownMakes.j0 k z ld s bt.1 bt.2 false) = some r → polyglotlaw07_KnownMakes.f k z ld s = some r := fun k r h => by
        unfold polyglotlaw07_KnownMakes.f
        rw [if_neg (by omega), ← h]
        congr 1
        funext bt
        rw [if_neg (by omega), if_neg (by omega), if_neg (by omega), decide_eq_false (by omega)]
      cases hbs : b s with
      | false =>
        have : Ev fun k => known_plain.f k s = some false ∧ polyglotlaw07_plain.f (k - 1) s = some false := by
          have h1 := (hb12 s).1
          have h2 : Ev fun k => polyglotlaw07_plain.f (k - 1) s = some (b s) := (hb12 s).2.succ fun k hk => hk
          rw [hbs] at h1 h2
          exact h1.and h2
        obtain ⟨n, hn⟩ := this
        refine ⟨n + 1, toF _ _ ?_⟩
        obtain ⟨c1, c2⟩ := hn (n + 1) (by omega)
        unfold known_Make.f
        rw [if_neg hr, c1]
        simp only [Option.bind_some, Bool.false_eq_true, if_false]
        rw [polyglotlaw07_KnownMakes.j0, if_neg (by simp), show polyglotlaw07_plain.f n s = some false from c2]
        rfl
      | true =>
        obtain ⟨L, hLe, hL3, hso, hz, hl, hb, hlen, hby, hn⟩ := made z ld s (by omega) (by omega) b hbs
        have hg : ∀ x ∈ L, x.f1.length ≤ 1000000 := fun x hx => by have := hlen x hx; omega
        have hZ : Ev fun k => known_ZoneOf.f k L = some (zR z) := (number_is L 32 1 (by omega) (by omega) (by omega) hg hby).mono fun k hk => by
          unfold known_ZoneOf.f
          have hk : known_number.f k L 32 1 = some (numB (fnd L 32 0) 1) := hk
          rw [hk, hz]; rfl
        have hD : Ev fun k => known_LoadOf.f k L = some (zR ld) := (number_is L 33 2 (by omega) (by omega) (by omega) hg hby).mono fun k hk => by
          unfold known_LoadOf.f
          have hk : known_number.f k L 33 2 = some (numB (fnd L 33 0) 2) := hk
          rw [hk, hl]; rfl
        have hB : Ev fun k => known_BuildOf.f k L = some (bR s) := by
          have := build_is L (by omega) hg b (fun s => (hb12 s).1)
          rw [hb] at this
          exact this
        have hl0 : Ev fun k => polyglotlaw07_KnownMakes.l0 k z ld s L 0 (zR z).1 (zR z).2 (zR ld).1 (zR ld).2 (bR s).1 (bR s).2 (L.length : Int) 1 = some true :=
          ev_of (fun k => (polyglotlaw07_KnownMakes.mono_l k).2.2.2.2 _ _ _ _ _ _ _ _ _ _ _ _ _) (l0_run z ld s L _ rfl hL3 hso 3 1 rfl (by omega))
        have h3 : Ev fun k => polyglotlaw07_KnownMakes.j3 k z ld s L 0 (zR z).1 (zR z).2 (zR ld).1 (zR ld).2 (bR s).1 (bR s).2 (L.length : Int) = some true := hl0.succ fun k hk => by
          rw [polyglotlaw07_KnownMakes.j3]; exact hk
        have h2 : Ev fun k => polyglotlaw07_KnownMakes.j2 k z ld s L 0 (zR z).1 (zR z).2 (zR ld).1 (zR ld).2 (bR s).1 (bR s).2 ((if 0 ≤ z then 1 else 0) + (if 0 ≤ ld then 1 else 0)) = some true := h3.succ fun k hk => by
          rw [polyglotlaw07_KnownMakes.j2]
          by_cases s0 : s.size = 0
          · rw [if_pos ((toList_iff s).2 s0)]
            rw [hn, if_neg (show ¬ s.size ≠ 0 by simpa using s0), Int.add_zero] at hk
            exact hk
          · rw [if_neg (fun e => s0 ((toList_iff s).1 e)), w64 (by split <;> split <;> omega) (by split <;> split <;> omega)]
            rw [hn, if_pos s0] at hk
            exact hk
        have h1 : Ev fun k => polyglotlaw07_KnownMakes.j1 k z ld s L 0 (zR z).1 (zR z).2 (zR ld).1 (zR ld).2 (bR s).1 (bR s).2 (if 0 ≤ z then 1 else 0) = some true := h2.succ fun k hk => by
          rw [polyglotlaw07_KnownMakes.j1]
          by_cases l0 : 0 ≤ ld
          · rw [if_pos l0, w64 (by split <;> omega) (by split <;> omega)]
            rw [if_pos l0] at hk
            exact hk
          · rw [if_neg (show ¬ ld ≥ 0 by omega)]
            rw [if_neg l0, Int.add_zero] at hk
            exact hk
        have h0 : Ev fun k => polyglotlaw07_KnownMakes.j0 k z ld s L 0 false = some true := by
          have hp := (hb12 s).2
          rw [hbs] at hp
          refine ((((hp.and hZ).and hD).and hB).and h1).succ fun k ⟨⟨⟨⟨a, c⟩, d⟩, e⟩, f⟩ => ?_
          rw [polyglotlaw07_KnownMakes.j0, if_neg (by simp), a]
          simp only [Option.bind_some, if_true]
          rw [c]
          simp only [Option.bind_some]
          rw [d]
          simp only [Option.bind_some]
          rw [e]
          simp only [Option.bind_some]
          by_cases z0 : 0 ≤ z
          · rw [if_pos z0]
            rw [if_pos z0] at f
            exact f
          · rw [if_neg (show ¬ z ≥ 0 by omega)]
            rw [if_neg z0] at f
            exact f
        have hp := (hb12 s).1
        rw [hbs] at hp
        obtain ⟨n, hn⟩ := hp.and h0
        refine ⟨n, toF _ _ ?_⟩
        obtain ⟨c1, c2⟩ := hn n (Nat.le_refl _)
        unfold known_Make.f
        rw [if_neg hr, c1]
        simp only [Option.bind_some, if_true]
        rw [← hLe]
        exact c2
  · exact ⟨0, by unfold polyglotlaw07_KnownMakes.f; rw [if_pos (by omega)]; rfl⟩
end Go.Proofs.Ytdamjkfggmmmeab.Pure
