/- Plain laws of items, and what they come to. -/
import Derived.Test.YtdamjkfggmmmeabPTjx3
namespace Go.Proofs.Ytdamjkfggmmmeab.Pure
open Go.RowKit Go.Proofs.Ytdamjkfggmmmeab.PTj Go.Proofs.YtdamjkfggmmmeabW.PrintWords Go.Proofs.YtdamjkfggmmmeabW.PrintLast Go.Proofs.YtdamjkfggmmmeabW.PrintMore
set_option linter.unusedVariables false
set_option linter.unusedSimpArgs false
/-! what items come to, plainly -/
theorem w64 {n : Int} (h0 : -9223372036854775808 ≤ n) (h1 : n < 9223372036854775808) : wrap64 n = n := by unfold wrap64; omega
def one (x : S40) : List Int := x.f0 :: (x.f1.length : Int) / 256 :: (x.f1.length : Int) % 256 :: x.f1
def flat : List S40 → List Int
  | [] => []
  | x :: l => one x ++ flat l
theorem one_len (x : S40) : (one x).length = x.f1.length + 3 := by simp [one]
theorem flat_append (l m : List S40) : flat (l ++ m) = flat l ++ flat m := by
  induction l with
  | nil => rfl
  | cons x l ih => simp [flat, ih]
def inb (x : S40) : Prop := 0 ≤ x.f0 ∧ x.f0 ≤ 255
theorem rd_mid (done rest : List S40) (x : S40) : rd_T40 (done ++ x :: rest) (done.length : Int) = x := by simp [rd_T40]
theorem join_one (k : Nat) (acc : List Int) (l : List S40) (len i : Int) (x : S40) (h0 : 0 ≤ i) (h1 : i < len) (h2 : i < (l.length : Int)) (hl : len ≤ 4398046511104) (hx : rd_T40 l i = x) (hi : inb x) (hd : x.f1.length ≤ 65535) (hs : acc.length + (one x).length < 140737488355328) :
    tlv_Join.l0 (k + 5) acc l len i = tlv_Join.l0 k (acc ++ one x) l len (i + 1) := by
  obtain ⟨hi0, hi1⟩ := hi
  rw [one_len] at hs
  have s8 : (shr .i64 (x.f1.length : Int) 8) % 256 = (x.f1.length : Int) / 256 := by
    rw [show shr .i64 (x.f1.length : Int) 8 = (x.f1.length : Int) / 256 from rfl]; omega
  have s0 : (shr .i64 (x.f1.length : Int) 0) % 256 = (x.f1.length : Int) % 256 := by
    rw [show shr .i64 (x.f1.length : Int) 0 = (x.f1.length : Int) / 1 from rfl]; omega
  have t : x.f0 % 256 = x.f0 := by omega
  have w1 : wrap64 (8 - wrap64 (8 * 0)) = 8 := by unfold wrap64; omega
  have w2 : wrap64 (8 - wrap64 (8 * 1)) = 0 := by unfold wrap64; omega
  have w3 : wrap64 (0 + 1) = 1 := by unfold wrap64; omega
  have w4 : wrap64 (1 + 1) = 2 := by unfold wrap64; omega
  have w5 : wrap64 (i + 1) = i + 1 := w64 (by omega) (by omega)
  rw [tlv_Join.l0, if_pos h1, if_pos h0, if_pos h2, hx, if_neg (by omega), decide_eq_false (show ¬ x.f0 > 255 by omega)]
  rw [tlv_Join.j1, if_neg (by simp), if_neg (by omega), if_pos (by omega), t]
  rw [tlv_Join.l1, w1, if_pos (by decide), if_pos (by decide), if_pos (by simp; omega), s8, w3]
  rw [tlv_Join.l1, w2, if_pos (by decide), if_pos (by decide), if_pos (by simp; omega), s0, w4]
  rw [tlv_Join.l1, if_neg (by decide), if_pos (by simp; omega), w5]
  congr 1
  simp [one]
theorem join_run (l : List S40) (hlen : l.length ≤ 1000) (hg : ∀ x ∈ l, x.f1.length ≤ 65535) : ∀ (rest done : List S40) (acc : List Int), l = done ++ rest → (∀ x ∈ rest, inb x) → acc.length ≤ 70000 * done.length →
    ∃ k, tlv_Join.l0 k acc l (l.length : Int) (done.length : Int) = some (acc ++ flat rest, 0)
  | [], done, acc, hl, _, _ => ⟨1, by
      have : (done.length : Int) = l.length := by rw [hl]; simp
      rw [tlv_Join.l0, if_neg (by omega)]; simp [flat]⟩
  | x :: rest, done, acc, hl, hi, ha => by
    have hll : l.length = done.length + rest.length + 1 := by rw [hl]; simp; omega
    have hx : rd_T40 l (done.length : Int) = x := by rw [hl]; exact rd_mid _ _ _
    have hd := hg x (by rw [hl]; simp)
    have ho := one_len x
    obtain ⟨k, hk⟩ := join_run l hlen hg rest (done ++ [x]) (acc ++ one x) (by rw [hl]; simp) (fun y hy => hi y (List.mem_cons_of_mem _ hy)) (by simp; omega)
    refine ⟨k + 5, ?_⟩
    rw [join_one k acc l _ _ x (by omega) (by omega) (by omega) (by omega) hx (hi x (List.mem_cons_self)) hd (by omega)]
    rw [show ((done ++ [x]).length : Int) = (done.length : Int) + 1 by simp] at hk
    rw [hk]; simp [flat]
theorem join_ok (l : List S40) (hlen : l.length ≤ 1000) (hg : ∀ x ∈ l, x.f1.length ≤ 65535) (hi : ∀ x ∈ l, inb x) : ∃ k, tlv_Join.f k l = some (flat l, 0) := by
  obtain ⟨k, hk⟩ := join_run l hlen hg l [] [] rfl hi (by simp)
  exact ⟨k, by simpa [tlv_Join.f] using hk⟩
theorem join_bad_run (l : List S40) (hlen : l.length ≤ 1000) (hg : ∀ x ∈ l, x.f1.length ≤ 65535) : ∀ (rest done : List S40) (acc : List Int), l = done ++ rest → (∃ x ∈ rest, ¬ inb x) → acc.length ≤ 70000 * done.length →
    ∃ k, tlv_Join.l0 k acc l (l.length : Int) (done.length : Int) = some ([], 5)
  | [], done, acc, hl, h, _ => by obtain ⟨x, hx, _⟩ := h; simp at hx
  | x :: rest, done, acc, hl, hi, ha => by
    have hll : l.length = done.length + rest.length + 1 := by rw [hl]; simp; omega
    have hx : rd_T40 l (done.length : Int) = x := by rw [hl]; exact rd_mid _ _ _
    have hd := hg x (by rw [hl]; simp)
    have ho := one_len x
    by_cases hxi : inb x
    · obtain ⟨k, hk⟩ := join_bad_run l hlen hg rest (done ++ [x]) (acc ++ one x) (by rw [hl]; simp) (by
        obtain ⟨y, hy, hn⟩ := hi
        rcases List.mem_cons.1 hy with rfl | hy
        · exact absurd hxi hn
        · exact ⟨y, hy, hn⟩) (by simp; omega)
      refine ⟨k + 5, ?_⟩
      rw [join_one k acc l _ _ x (by omega) (by omega) (by omega) (by omega) hx hxi hd (by omega)]
      rw [show ((done ++ [x]).length : Int) = (done.length : Int) + 1 by simp] at hk
      exact hk
    · refine ⟨2, ?_⟩
      rw [tlv_Join.l0, if_pos (by omega), if_pos (by omega), if_pos (by omega), hx]
      by_cases hneg : x.f0 < 0
      · rw [if_pos hneg, tlv_Join.j1, if_pos rfl]
      · rw [if_neg hneg, decide_eq_true (show x.f0 > 255 by unfold inb at hxi; omega), tlv_Join.j1, if_pos rfl]
theorem join_bad (l : List S40) (hlen : l.length ≤ 1000) (hg : ∀ x ∈ l, x.f1.length ≤ 65535) (hi : ∃ x ∈ l, ¬ inb x) : ∃ k, tlv_Join.f k l = some ([], 5) := by
  obtain ⟨k, hk⟩ := join_bad_run l hlen hg l [] [] rfl hi (by simp)
  exact ⟨k, by simpa [tlv_Join.f] using hk⟩
theorem leo_up {α : Type} {f : Nat → Option α} (h : ∀ k, LeO (f k) (f (k + 1))) {k : Nat} {r : α} (hk : f k = some r) : ∀ d, f (k + d) = some r
  | 0 => hk
  | d + 1 => h _ _ (leo_up h hk d)
theorem leo_le {α : Type} {f : Nat → Option α} (h : ∀ k, LeO (f k) (f (k + 1))) {k m : Nat} {r : α} (hk : f k = some r) (hm : k ≤ m) : f m = some r := by
  have := leo_up h hk (m - k)
  rwa [show k + (m - k) = m by omega] at this
/-! what bytes are split into, plainly -/
def bytesOk (l : List Int) : Prop := ∀ c ∈ l, 0 ≤ c ∧ c ≤ 255
open Octet (Rd stepF numN num) in
theorem step_mid (pre p post : List Int) (n : Int) (hn : n = (p.length : Int)) : stepF ⟨pre ++ (p ++ post), pre.length, false⟩ n = (some p, ⟨pre ++ (p ++ post), (pre ++ p).length, false⟩) := by
  unfold stepF
  subst hn
  rw [if_neg (by simp), if_neg (by simp; omega)]
  simp
open Octet (Rd stepF numN num) in
theorem num_mid (pre p post : List Int) (n : Int) (hn : n = (p.length : Int)) (h1 : 1 ≤ n) (h7 : n ≤ 7) (hb : bytesOk p) : octet_Reader_Num.f ⟨pre ++ (p ++ post), pre.length, false⟩ n = some (num p, ⟨pre ++ (p ++ post), (pre ++ p).length, false⟩) := by
  have hnn : numN n = n := by unfold numN; rw [if_neg (by omega)]
  unfold octet_Reader_Num.f
  rw [hnn, step_mid pre p post n hn, if_pos (by simpa [bytesOk] using hb)]
  rfl
open Octet (Rd stepF numN num) in
theorem num_short (b : List Int) (i : Nat) (n : Int) (h1 : 1 ≤ n) (h7 : n ≤ 7) (hs : (b.length : Int) - i < n) : octet_Reader_Num.f ⟨b, i, false⟩ n = some (0, ⟨b, i, true⟩) := by
  have hnn : numN n = n := by unfold numN; rw [if_neg (by omega)]
  have hst : stepF ⟨b, i, false⟩ n = (none, ⟨b, i, true⟩) := by unfold stepF; rw [if_neg (by simp), if_pos (by right; show n > (b.length : Int) - i; omega)]
  unfold octet_Reader_Num.f
  rw [hnn, hst, if_pos (by simp)]
  rfl
open Octet (Rd stepF numN num) in
theorem num_gone (b : List Int) (i : Nat) (n : Int) : octet_Reader_Num.f ⟨b, i, true⟩ n = some (0, ⟨b, i, true⟩) := by
  have hst : stepF ⟨b, i, true⟩ (numN n) = (none, ⟨b, i, true⟩) := by unfold stepF; rw [if_pos rfl]
  unfold octet_Reader_Num.f
  rw [hst, if_pos (by simp)]
  rfl
open Octet (Rd stepF numN num) in
theorem take_mid (pre p post : List Int) (n : Int) (hn : n = (p.length : Int)) : octet_Reader_Take.f ⟨pre ++ (p ++ post), pre.length, false⟩ n = some (p, ⟨pre ++ (p ++ post), (pre ++ p).length, false⟩) := by
  unfold octet_Reader_Take.f
  rw [step_mid pre p post n hn]
  rfl
open Octet (Rd stepF numN num) in
theorem take_short (b : List Int) (i : Nat) (n : Int) (h0 : 0 ≤ n) (hs : (b.length : Int) - i < n) : octet_Reader_Take.f ⟨b, i, false⟩ n = some ([], ⟨b, i, true⟩) := by
  unfold octet_Reader_Take.f stepF
  rw [if_neg (by simp), if_pos (by right; show n > (b.length : Int) - i; omega)]
  rfl
open Octet (Rd stepF numN num) in
theorem take_gone (b : List Int) (i : Nat) (n : Int) : octet_Reader_Take.f ⟨b, i, true⟩ n = some ([], ⟨b, i, true⟩) := by
  unfold octet_Reader_Take.f stepF
  rw [if_pos rfl]
  rfl
theorem split_one (k : Nat) (pre d post : List Int) (a h l : Int) (acc : List S40) (hb : bytesOk [a, h, l]) (hd : h * 256 + l = (d.length : Int)) (hs : acc.length < 4398046511104) :
    tlv_Split.l0 (k + 1) acc ⟨pre ++ (a :: h :: l :: d ++ post), pre.length, false⟩ = tlv_Split.l0 k (acc ++ [⟨a, d⟩]) ⟨(pre ++ (a :: h :: l :: d)) ++ post, (pre ++ (a :: h :: l :: d)).length, false⟩ := by
  have e1 : pre ++ (a :: h :: l :: d ++ post) = pre ++ ([a] ++ (h :: l :: d ++ post)) := by simp
  have e2 : pre ++ ([a] ++ (h :: l :: d ++ post)) = (pre ++ [a]) ++ ([h, l] ++ (d ++ post)) := by simp
  have e3 : (pre ++ [a]) ++ ([h, l] ++ (d ++ post)) = (pre ++ [a] ++ [h, l]) ++ (d ++ post) := by simp
  have e4 : (pre ++ [a] ++ [h, l]) ++ (d ++ post) = (pre ++ (a :: h :: l :: d)) ++ post := by simp
  have e5 : (pre ++ [a] ++ [h, l] ++ d).length = (pre ++ (a :: h :: l :: d)).length := by simp
  have n1 : Octet.num [a] = a := by simp [Octet.num]
  have n2 : Octet.num [h, l] = (d.length : Int) := by rw [← hd]; simp [Octet.num]
  have b1 : bytesOk [a] := fun c hc => hb c (by simp at hc; simp [hc])
  have b2 : bytesOk [h, l] := fun c hc => hb c (by simp at hc; rcases hc with rfl | rfl <;> simp)
  rw [tlv_Split.l0]
  unfold octet_Reader_Left.f octet_Reader_Bad.f
  simp only [Option.bind_some, Bool.false_eq_true, if_false]
  rw [if_pos (by simp; omega), e1, num_mid pre [a] _ 1 rfl (by omega) (by omega) b1]
  simp only [Option.bind_some]
  rw [e2, num_mid (pre ++ [a]) [h, l] _ 2 rfl (by omega) (by omega) b2]
  simp only [Option.bind_some]
  rw [e3, n2, take_mid (pre ++ [a] ++ [h, l]) d post _ rfl]
  simp only [Option.bind_some, Bool.false_eq_true, if_false]
  rw [if_pos hs, n1, e4, e5]
theorem split_end (k : Nat) (b : List Int) (i : Nat) (acc : List S40) (h : b.length ≤ i) : tlv_Split.l0 (k + 1) acc ⟨b, i, false⟩ = some (acc, 0) := by
  rw [tlv_Split.l0]
  unfold octet_Reader_Left.f
  simp only [Option.bind_some, Bool.false_eq_true, if_false]
  rw [if_neg (by omega)]
theorem split_run : ∀ (rest : List S40) (pre : List Int) (acc : List S40), (∀ x ∈ rest, inb x ∧ x.f1.length ≤ 65535) → acc.length + rest.length ≤ 1000000 → ∃ k, tlv_Split.l0 k acc ⟨pre ++ flat rest, pre.length, false⟩ = some (acc ++ rest, 0)
  | [], pre, acc, _, _ => ⟨1, by rw [split_end 0 _ _ _ (by simp [flat])]; simp⟩
  | x :: rest, pre, acc, hg, ha => by
    obtain ⟨k, hk⟩ := split_run rest (pre ++ one x) (acc ++ [x]) (fun y hy => hg y (List.mem_cons_of_mem _ hy)) (by simp at ha ⊢; omega)
    obtain ⟨hx, hd⟩ := hg x List.mem_cons_self
    refine ⟨k + 1, ?_⟩
    have := split_one k pre x.f1 (flat rest) x.f0 ((x.f1.length : Int) / 256) ((x.f1.length : Int) % 256) acc (by
      intro c hc; simp at hc; unfold inb at hx
      rcases hc with rfl | rfl | rfl <;> omega) (by omega) (by simp at ha; omega)
    rw [show pre ++ flat (x :: rest) = pre ++ (x.f0 :: (x.f1.length : Int) / 256 :: (x.f1.length : Int) % 256 :: x.f1 ++ flat rest) by simp [flat, one], this]
    rw [show (acc ++ [⟨x.f0, x.f1⟩] : List S40) = acc ++ [x] from rfl, show (x.f0 :: (x.f1.length : Int) / 256 :: (x.f1.length : Int) % 256 :: x.f1) = one x from rfl, hk]
    simp
theorem split_ok (l : List S40) (hg : ∀ x ∈ l, inb x ∧ x.f1.length ≤ 65535) (hl : l.length ≤ 1000000) (hf : (flat l).length ≤ 1000000) : ∃ k, tlv_Split.f k (flat l) = some (l, 0) := by
  obtain ⟨k, hk⟩ := split_run l [] [] hg (by simpa using hl)
  refine ⟨k, ?_⟩
  unfold tlv_Split.f octet_Read.f
  rw [if_pos hf]
  simpa using hk
theorem few_run (l : List S40) (hl : l.length ≤ 30) : ∀ (rest done : List S40), l = done ++ rest → ∃ k r, polyglotlaw12_few.l0 k l (done.length : Int) = some r ∧ (r = true → ∀ x ∈ rest, x.f1.length ≤ 400)
  | [], done, he => ⟨1, true, by rw [polyglotlaw12_few.l0, if_neg (by rw [he]; simp)], by simp⟩
  | x :: rest, done, he => by
    have hll : l.length = done.length + rest.length + 1 := by rw [he]; simp; omega
    have hx : rd_T40 l (done.length : Int) = x := by rw [he]; exact rd_mid _ _ _
    by_cases h4 : x.f1.length ≤ 400
    · obtain ⟨k, r, h1, h2⟩ := few_run l hl rest (done ++ [x]) (by rw [he]; simp)
      refine ⟨k + 1, r, ?_, fun hr y hy => ?_⟩
      · rw [polyglotlaw12_few.l0, if_pos (by omega), if_pos (by omega), hx, if_neg (by omega), w64 (by omega) (by omega), ← h1]
        simp
      · rcases List.mem_cons.1 hy with rfl | hy
        · exact h4
        · exact h2 hr y hy
    · exact ⟨1, false, by rw [polyglotlaw12_few.l0, if_pos (by omega), if_pos (by omega), hx, if_pos (by omega)], by simp⟩
theorem few_is (l : List S40) : ∃ k r, polyglotlaw12_few.f k l = some r ∧ (r = true → l.length ≤ 30 ∧ ∀ x ∈ l, x.f1.length ≤ 400) := by
  by_cases hl : l.length ≤ 30
  · obtain ⟨k, r, h1, h2⟩ := few_run l hl l [] rfl
    exact ⟨k, r, by unfold polyglotlaw12_few.f; rw [if_neg (by omega)]; exact h1, fun hr => ⟨hl, h2 hr⟩⟩
  · exact ⟨0, false, by unfold polyglotlaw12_few.f; rw [if_pos (by omega)], by simp⟩
theorem flat_len (l : List S40) (hl : l.length ≤ 30) (hg : ∀ x ∈ l, x.f1.length ≤ 400) : (flat l).length ≤ 403 * l.length := by
  clear hl
  induction l with
  | nil => simp [flat]
  | cons x l ih =>
    have h1 := ih (fun y hy => hg y (List.mem_cons_of_mem _ hy))
    have h2 := hg x List.mem_cons_self
    have h3 := one_len x
    simp [flat]; omega
theorem lay_run (l : List S40) (hl : l.length ≤ 30) (hg : ∀ x ∈ l, inb x ∧ x.f1.length ≤ 400) : ∀ (rest done : List S40) (acc : List Int), l = done ++ rest → acc.length ≤ 500 * done.length → ∃ k, polyglotlaw12_lay.l0 k l acc (done.length : Int) = some (acc ++ flat rest)
  | [], done, acc, he, _ => ⟨1, by rw [polyglotlaw12_lay.l0, if_neg (by rw [he]; simp)]; simp [flat]⟩
  | x :: rest, done, acc, he, ha => by
    have hll : l.length = done.length + rest.length + 1 := by rw [he]; simp; omega
    have hx : rd_T40 l (done.length : Int) = x := by rw [he]; exact rd_mid _ _ _
    obtain ⟨hi, hd⟩ := hg x (by rw [he]; simp)
    have ho := one_len x
    obtain ⟨k, hk⟩ := lay_run l hl hg rest (done ++ [x]) (acc ++ one x) (by rw [he]; simp) (by simp; omega)
    refine ⟨k + 1, ?_⟩
    have t : x.f0 % 256 = x.f0 := by unfold inb at hi; omega
    have u : wrap64 ((x.f1.length : Int) / 256) % 256 = (x.f1.length : Int) / 256 := by rw [w64 (by omega) (by omega)]; omega
    have v : wrap64 ((done.length : Int) + 1) = ((done ++ [x]).length : Int) := by rw [w64 (by omega) (by omega)]; simp
    rw [polyglotlaw12_lay.l0, if_pos (by omega), if_pos (by omega), hx, t, u, v]
    simp only [Option.bind_some]
    rw [if_pos (by simp; omega), if_pos (by simp; omega)]
    rw [show acc ++ [x.f0, (x.f1.length : Int) / 256, (x.f1.length : Int) % 256] ++ x.f1 = acc ++ one x by simp [one], hk]
    simp [flat]
theorem lay_is (l : List S40) (hl : l.length ≤ 30) (hg : ∀ x ∈ l, inb x ∧ x.f1.length ≤ 400) : ∃ k, polyglotlaw12_lay.f k l = some (flat l) := by
  obtain ⟨k, hk⟩ := lay_run l hl hg l [] [] rfl (by simp)
  exact ⟨k, by simpa [polyglotlaw12_lay.f] using hk⟩
theorem good_end (l : List S40) (hl : l.length ≤ 30) (hg : ∀ x ∈ l, inb x ∧ x.f1.length ≤ 400) (i : Int) (hi : ¬ i < (l.length : Int)) : ∃ k, polyglotlaw12_TlvJoins.l0 k l (flat l) 0 i = some true := by
  obtain ⟨k1, h1⟩ := lay_is l hl hg
  obtain ⟨k2, h2⟩ := split_ok l (fun x hx => ⟨(hg x hx).1, by have := (hg x hx).2; omega⟩) (by omega) (by have := flat_len l hl (fun x hx => (hg x hx).2); omega)
  refine ⟨k1 + k2 + 2, ?_⟩
  rw [polyglotlaw12_TlvJoins.l0, if_neg hi, if_pos rfl, leo_le (polyglotlaw12_lay.mono l) h1 (show k1 ≤ k1 + k2 + 1 by omega)]
  simp only [Option.bind_some]
  rw [show ((strOfNums (flat l)).toList != (strOfNums (flat l)).toList) = false by simp, polyglotlaw12_TlvJoins.j1, if_neg (by simp), leo_le (tlv_Split.mono (flat l)) h2 (show k2 ≤ k1 + k2 by omega)]
  simp only [Option.bind_some, if_true]
  unfold polyglotlaw12_same.f polyglotlaw12_awake.f
  simp
theorem good_run (l : List S40) (hl : l.length ≤ 30) (hg : ∀ x ∈ l, inb x ∧ x.f1.length ≤ 400) : ∀ (rest done : List S40), l = done ++ rest → ∃ k, polyglotlaw12_TlvJoins.l0 k l (flat l) 0 (done.length : Int) = some true
  | [], done, he => good_end l hl hg _ (by rw [he]; simp)
  | x :: rest, done, he => by
    have hll : l.length = done.length + rest.length + 1 := by rw [he]; simp; omega
    have hx : rd_T40 l (done.length : Int) = x := by rw [he]; exact rd_mid _ _ _
    obtain ⟨hi, _⟩ := hg x (by rw [he]; simp)
    obtain ⟨k, hk⟩ := good_run l hl hg rest (done ++ [x]) (by rw [he]; simp)
    refine ⟨k + 1, ?_⟩
    have v : wrap64 ((done.length : Int) + 1) = ((done ++ [x]).length : Int) := by rw [w64 (by omega) (by omega)]; simp
    unfold inb at hi
    rw [polyglotlaw12_TlvJoins.l0, if_pos (by omega), if_pos (by omega), hx, if_neg (by omega), if_neg (by omega), v, hk]
theorem bad_run (l : List S40) (hl : l.length ≤ 30) : ∀ (rest done : List S40), l = done ++ rest → (∃ x ∈ rest, ¬ inb x) → ∃ k, polyglotlaw12_TlvJoins.l0 k l [] 5 (done.length : Int) = some true
  | [], done, he, h => by obtain ⟨x, hx, _⟩ := h; simp at hx
  | x :: rest, done, he, h => by
    have hll : l.length = done.length + rest.length + 1 := by rw [he]; simp; omega
    have hx : rd_T40 l (done.length : Int) = x := by rw [he]; exact rd_mid _ _ _
    have ha : ∀ k, polyglotlaw12_TlvJoins.l0 (k + 1) l [] 5 (done.length : Int) = if x.f0 < 0 then some true else if x.f0 > 255 then some true else polyglotlaw12_TlvJoins.l0 k l [] 5 ((done ++ [x]).length : Int) := fun k => by
      have v : wrap64 ((done.length : Int) + 1) = ((done ++ [x]).length : Int) := by rw [w64 (by omega) (by omega)]; simp
      rw [polyglotlaw12_TlvJoins.l0, if_pos (by omega), if_pos (by omega), hx, v]
      unfold polyglotlaw12_awake.f
      simp
    by_cases hxi : inb x
    · obtain ⟨k, hk⟩ := bad_run l hl rest (done ++ [x]) (by rw [he]; simp) (by
        obtain ⟨y, hy, hn⟩ := h
        rcases List.mem_cons.1 hy with rfl | hy
        · exact absurd hxi hn
        · exact ⟨y, hy, hn⟩)
      unfold inb at hxi
      exact ⟨k + 1, by rw [ha, if_neg (by omega), if_neg (by omega), hk]⟩
    · unfold inb at hxi
      refine ⟨1, ?_⟩
      rw [ha]
      by_cases hn : x.f0 < 0
      · rw [if_pos hn]
      · rw [if_neg hn, if_pos (by omega)]
theorem TlvJoins : polyglotlaw12_TlvJoins.Pure := by
  intro l _ _
  obtain ⟨k0, r, h0, hr⟩ := few_is l
  cases r with
  | false => exact ⟨k0, by unfold polyglotlaw12_TlvJoins.f polyglotlaw12_awake.f; rw [h0]; simp⟩
  | true =>
    obtain ⟨hl, hg⟩ := hr rfl
    have fin : ∀ (b : List Int) (e : Int), (∃ k, tlv_Join.f k l = some (b, e)) → (∃ k, polyglotlaw12_TlvJoins.l0 k l b e 0 = some true) → ∃ k, polyglotlaw12_TlvJoins.f k l = some true := by
      rintro b e ⟨k1, h1⟩ ⟨k2, h2⟩
      refine ⟨k0 + k1 + k2, ?_⟩
      unfold polyglotlaw12_TlvJoins.f
      rw [leo_le (polyglotlaw12_few.mono l) h0 (show k0 ≤ k0 + k1 + k2 by omega)]
      simp only [Option.bind_some, if_true]
      rw [leo_le (tlv_Join.mono l) h1 (show k1 ≤ k0 + k1 + k2 by omega)]
      simp only [Option.bind_some]
      exact leo_le (fun k => (polyglotlaw12_TlvJoins.mono_l k).1 l b e 0) h2 (show k2 ≤ k0 + k1 + k2 by omega)
    by_cases hi : ∀ x ∈ l, inb x
    · exact fin _ _ (join_ok l (by omega) (fun x hx => by have := hg x hx; omega) hi) (good_run l hl (fun x hx => ⟨hi x hx, hg x hx⟩) l [] rfl)
    · have hb : ∃ x ∈ l, ¬ inb x := by simpa using hi
      exact fin _ _ (join_bad l (by omega) (fun x hx => by have := hg x hx; omega) hb) (bad_run l hl l [] rfl hb)
end Go.Proofs.Ytdamjkfggmmmeab.Pure
