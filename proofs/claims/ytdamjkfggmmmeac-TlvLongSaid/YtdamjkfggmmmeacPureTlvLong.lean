/- Plain laws of items, and what they come to. -/
import Derived.Test.YtdamjkfggmmmeacPTox2
namespace Go.Proofs.Ytdamjkfggmmmeac.Pure
open Go.RowKit Go.Proofs.Ytdamjkfggmmmeac.PTo Go.Proofs.YtdamjkfggmmmeacW.PrintWords Go.Proofs.YtdamjkfggmmmeacW.PrintLast Go.Proofs.YtdamjkfggmmmeacW.PrintMore
set_option linter.unusedVariables false
set_option linter.unusedSimpArgs false
/-! what items come to, plainly -/
theorem w64 {n : Int} (h0 : -9223372036854775808 ≤ n) (h1 : n < 9223372036854775808) : wrap64 n = n := by unfold wrap64; omega
def one (x : S28) : List Int := x.f0 :: (x.f1.length : Int) / 256 :: (x.f1.length : Int) % 256 :: x.f1
def flat : List S28 → List Int
  | [] => []
  | x :: l => one x ++ flat l
theorem one_len (x : S28) : (one x).length = x.f1.length + 3 := by simp [one]
theorem flat_append (l m : List S28) : flat (l ++ m) = flat l ++ flat m := by
  induction l with
  | nil => rfl
  | cons x l ih => simp [flat, ih]
def inb (x : S28) : Prop := 0 ≤ x.f0 ∧ x.f0 ≤ 255
theorem rd_mid (done rest : List S28) (x : S28) : rd_T28 (done ++ x :: rest) (done.length : Int) = x := by simp [rd_T28]
theorem join_one (k : Nat) (acc : List Int) (l : List S28) (len i : Int) (x : S28) (h0 : 0 ≤ i) (h1 : i < len) (h2 : i < (l.length : Int)) (hl : len ≤ 4398046511104) (hx : rd_T28 l i = x) (hi : inb x) (hd : x.f1.length ≤ 65535) (hs : acc.length + (one x).length < 140737488355328) :
    tlv_Join.l0 (k + 5) acc l len i = tlv_Join.l0 k (acc ++ one x) l len (i + 1) := by
  obtain ⟨hi0, hi1⟩ := hi
  rw [one_len] at hs
  have s8 : (shr .i64 (x.f1.length : Int) 8) % 256 = (x.f1.length : Int) / 256 := by
    rw [show shr .i64 (x.f1.length : Int) 8 = (x.f1.length : Int) / 256 from rfl]; omega
  have s0 : (shr .i64 (x.f1.length : Int) 0) % 256 = (x.f1.length : Int) % 256 := by
    rw [show shr .i64 (x.f1.length : Int) 0 = (x.f1.length : Int) / 1 from rfl]; omega
  have t : x.f0 % 256 = x.f0 := by omega
  have w1 : wrap64 (8 - wrap64 (8 * 0)) = 8 := by unfold wrap64; omega
  have w2 : wrap64 (8 - wrap64 (8 * 1)) = 0 := by unfold wrap64; omega
  have w3 : wrap64 (0 + 1) = 1 := by unfold wrap64; omega
  have w4 : wrap64 (1 + 1) = 2 := by unfold wrap64; omega
  have w5 : wrap64 (i + 1) = i + 1 := w64 (by omega) (by omega)
  rw [tlv_Join.l0, if_pos h1, if_pos h0, if_pos h2, hx, if_neg (by omega), decide_eq_false (show ¬ x.f0 > 255 by omega)]
  rw [tlv_Join.j1, if_neg (by simp), if_neg (by omega), if_pos (by omega), t]
  rw [tlv_Join.l1, w1, if_pos (by decide), if_pos (by decide), if_pos (by simp; omega), s8, w3]
  rw [tlv_Join.l1, w2, if_pos (by decide), if_pos (by decide), if_pos (by simp; omega), s0, w4]
  rw [tlv_Join.l1, if_neg (by decide), if_pos (by simp; omega), w5]
  congr 1
  simp [one]
theorem join_run (l : List S28) (hlen : l.length ≤ 1000) (hg : ∀ x ∈ l, x.f1.length ≤ 65535) : ∀ (rest done : List S28) (acc : List Int), l = done ++ rest → (∀ x ∈ rest, inb x) → acc.length ≤ 70000 * done.length →
    ∃ k, tlv_Join.l0 k acc l (l.length : Int) (done.length : Int) = some (acc ++ flat rest, 0)
  | [], done, acc, hl, _, _ => ⟨1, by
      have : (done.length : Int) = l.length := by rw [hl]; simp
      rw [tlv_Join.l0, if_neg (by omega)]; simp [flat]⟩
  | x :: rest, done, acc, hl, hi, ha => by
    have hll : l.length = done.length + rest.length + 1 := by rw [hl]; simp; omega
    have hx : rd_T28 l (done.length : Int) = x := by rw [hl]; exact rd_mid _ _ _
    have hd := hg x (by rw [hl]; simp)
    have ho := one_len x
    obtain ⟨k, hk⟩ := join_run l hlen hg rest (done ++ [x]) (acc ++ one x) (by rw [hl]; simp) (fun y hy => hi y (List.mem_cons_of_mem _ hy)) (by simp; omega)
    refine ⟨k + 5, ?_⟩
    rw [join_one k acc l _ _ x (by omega) (by omega) (by omega) (by omega) hx (hi x (List.mem_cons_self)) hd (by omega)]
    rw [show ((done ++ [x]).length : Int) = (done.length : Int) + 1 by simp] at hk
    rw [hk]; simp [flat]
theorem join_ok (l : List S28) (hlen : l.length ≤ 1000) (hg : ∀ x ∈ l, x.f1.length ≤ 65535) (hi : ∀ x ∈ l, inb x) : ∃ k, tlv_Join.f k l = some (flat l, 0) := by
  obtain ⟨k, hk⟩ := join_run l hlen hg l [] [] rfl hi (by simp)
  exact ⟨k, by simpa [tlv_Join.f] using hk⟩
theorem join_bad_run (l : List S28) (hlen : l.length ≤ 1000) (hg : ∀ x ∈ l, x.f1.length ≤ 65535) : ∀ (rest done : List S28) (acc : List Int), l = done ++ rest → (∃ x ∈ rest, ¬ inb x) → acc.length ≤ 70000 * done.length →
    ∃ k, tlv_Join.l0 k acc l (l.length : Int) (done.length : Int) = some ([], 5)
  | [], done, acc, hl, h, _ => by obtain ⟨x, hx, _⟩ := h; simp at hx
  | x :: rest, done, acc, hl, hi, ha => by
    have hll : l.length = done.length + rest.length + 1 := by rw [hl]; simp; omega
    have hx : rd_T28 l (done.length : Int) = x := by rw [hl]; exact rd_mid _ _ _
    have hd := hg x (by rw [hl]; simp)
    have ho := one_len x
    by_cases hxi : inb x
    · obtain ⟨k, hk⟩ := join_bad_run l hlen hg rest (done ++ [x]) (acc ++ one x) (by rw [hl]; simp) (by
        obtain ⟨y, hy, hn⟩ := hi
        rcases List.mem_cons.1 hy with rfl | hy
        · exact absurd hxi hn
        · exact ⟨y, hy, hn⟩) (by simp; omega)
      refine ⟨k + 5, ?_⟩
      rw [join_one k acc l _ _ x (by omega) (by omega) (by omega) (by omega) hx hxi hd (by omega)]
      rw [show ((done ++ [x]).length : Int) = (done.length : Int) + 1 by simp] at hk
      exact hk
    · refine ⟨2, ?_⟩
      rw [tlv_Join.l0, if_pos (by omega), if_pos (by omega), if_pos (by omega), hx]
      by_cases hneg : x.f0 < 0
      · rw [if_pos hneg, tlv_Join.j1, if_pos rfl]
      · rw [if_neg hneg, decide_eq_true (show x.f0 > 255 by unfold inb at hxi; omega), tlv_Join.j1, if_pos rfl]
theorem join_bad (l : List S28) (hlen : l.length ≤ 1000) (hg : ∀ x ∈ l, x.f1.length ≤ 65535) (hi : ∃ x ∈ l, ¬ inb x) : ∃ k, tlv_Join.f k l = some ([], 5) := by
  obtain ⟨k, hk⟩ := join_bad_run l hlen hg l [] [] rfl hi (by simp)
  exact ⟨k, by simpa [tlv_Join.f] using hk⟩
theorem leo_up {α : Type} {f : Nat → Option α} (h : ∀ k, LeO (f k) (f (k + 1))) {k : Nat} {r : α} (hk : f k = some r) : ∀ d, f (k + d) = some r
  | 0 => hk
  | d + 1 => h _ _ (leo_up h hk d)
theorem leo_le {α : Type} {f : Nat → Option α} (h : ∀ k, LeO (f k) (f (k + 1))) {k m : Nat} {r : α} (hk : f k = some r) (hm : k ≤ m) : f m = some r := by
  have := leo_up h hk (m - k)
  rwa [show k + (m - k) = m by omega] at this
theorem join_long (x : S28) (hi : inb x) (hd : 65535 < x.f1.length) : ∃ k, tlv_Join.f k [x] = some ([], 3) := by
  refine ⟨2, ?_⟩
  unfold inb at hi
  unfold tlv_Join.f
  rw [tlv_Join.l0, if_pos (by simp), if_pos (by simp), if_pos (by simp), show rd_T28 [x] 0 = x from rfl, if_neg (by omega), decide_eq_false (show ¬ x.f0 > 255 by omega)]
  rw [tlv_Join.j1, if_neg (by simp), if_pos (by omega)]
theorem long_end (n tag : Int) (h0 : 65000 ≤ n) (h1 : n ≤ 70000) (h2 : 0 ≤ tag) (h3 : tag ≤ 255) : ∃ k, polyglotlaw12_TlvLong.j0 k n tag false = some true := by
  obtain ⟨m, rfl⟩ := Int.eq_ofNat_of_zero_le (show 0 ≤ n by omega)
  have hin : inb ⟨tag, List.replicate m 0⟩ := ⟨h2, h3⟩
  by_cases hl : m ≤ 65535
  · obtain ⟨k, hk⟩ := join_ok [⟨tag, List.replicate m 0⟩] (by simp) (by intro x hx; simp at hx; subst hx; simp; omega) (by intro x hx; simp at hx; subst hx; exact hin)
    refine ⟨k + 1, ?_⟩
    rw [polyglotlaw12_TlvLong.j0, if_neg (by simp), if_pos (by omega), if_pos (by omega), Int.toNat_natCast, hk]
    simp only [Option.bind_some]
    have e : flat [(⟨tag, List.replicate m 0⟩ : S28)] = tag :: (m : Int) / 256 :: (m : Int) % 256 :: List.replicate m 0 := by simp [flat, one]
    rw [e, if_neg (by omega), if_pos trivial, w64 (by omega) (by omega), if_pos (by simp; omega), if_pos (by simp; omega)]
    have r0 : rd (tag :: (m : Int) / 256 :: (m : Int) % 256 :: List.replicate m 0) 0 = tag := rfl
    have r1 : rd (tag :: (m : Int) / 256 :: (m : Int) % 256 :: List.replicate m 0) 1 = (m : Int) / 256 := rfl
    have r2 : rd (tag :: (m : Int) / 256 :: (m : Int) % 256 :: List.replicate m 0) 2 = (m : Int) % 256 := rfl
    rw [r0, r1, r2, w64 (n := tag) (by omega) (by omega), if_pos rfl, if_pos (by simp; omega), if_pos (by simp; omega)]
    rw [w64 (n := (m : Int) / 256) (by omega) (by omega), w64 (n := (m : Int) / 256 * 256) (by omega) (by omega), w64 (n := (m : Int) % 256) (by omega) (by omega), w64 (by omega) (by omega), if_pos (by omega)]
    rfl
  · obtain ⟨k, hk⟩ := join_long ⟨tag, List.replicate m 0⟩ hin (by simp; omega)
    refine ⟨k + 1, ?_⟩
    rw [polyglotlaw12_TlvLong.j0, if_neg (by simp), if_pos (by omega), if_pos (by omega), Int.toNat_natCast, hk]
    simp only [Option.bind_some]
    rw [if_pos (by omega), if_pos (by simp), if_pos trivial]
    rfl
theorem TlvLong : polyglotlaw12_TlvLong.Pure := by
  intro n tag _ _
  have hT : ∀ k, polyglotlaw12_TlvLong.j0 (k + 1) n tag true = some true := fun k => by
    rw [polyglotlaw12_TlvLong.j0, if_pos rfl]; rfl
  unfold polyglotlaw12_TlvLong.f
  by_cases h0 : n < 65000
  · exact ⟨1, by rw [if_pos h0, hT]⟩
  · by_cases h1 : n > 70000
    · exact ⟨1, by rw [if_neg h0, if_pos h1, hT]⟩
    · by_cases h2 : tag < 0
      · exact ⟨1, by rw [if_neg h0, if_neg h1, if_pos h2, hT]⟩
      · by_cases h3 : tag > 255
        · exact ⟨1, by rw [if_neg h0, if_neg h1, if_neg h2, decide_eq_true h3, hT]⟩
        · obtain ⟨k, hk⟩ := long_end n tag (by omega) (by omega) (by omega) (by omega)
          exact ⟨k, by rw [if_neg h0, if_neg h1, if_neg h2, decide_eq_false h3, hk]⟩
end Go.Proofs.Ytdamjkfggmmmeac.Pure
