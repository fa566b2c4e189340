/- Plain laws of items, and what they come to. -/
import Derived.Test.YtdamjkfggmmmeabPTsx2
namespace Go.Proofs.Ytdamjkfggmmmeab.Pure
open Go.RowKit Go.Proofs.Ytdamjkfggmmmeab.PTs Go.Proofs.YtdamjkfggmmmeabW.PrintWords Go.Proofs.YtdamjkfggmmmeabW.PrintLast Go.Proofs.YtdamjkfggmmmeabW.PrintMore
set_option linter.unusedVariables false
set_option linter.unusedSimpArgs false
/-! what items come to, plainly -/
theorem w64 {n : Int} (h0 : -9223372036854775808 ≤ n) (h1 : n < 9223372036854775808) : wrap64 n = n := by unfold wrap64; omega
def one (x : S40) : List Int := x.f0 :: (x.f1.length : Int) / 256 :: (x.f1.length : Int) % 256 :: x.f1
def flat : List S40 → List Int
  | [] => []
  | x :: l => one x ++ flat l
theorem one_len (x : S40) : (one x).length = x.f1.length + 3 := by simp [one]
theorem flat_append (l m : List S40) : flat (l ++ m) = flat l ++ flat m := by
  induction l with
  | nil => rfl
  | cons x l ih => simp [flat, ih]
def inb (x : S40) : Prop := 0 ≤ x.f0 ∧ x.f0 ≤ 255
theorem rd_mid (done rest : List S40) (x : S40) : rd_T40 (done ++ x :: rest) (done.length : Int) = x := by simp [rd_T40]
theorem join_one (k : Nat) (acc : List Int) (l : List S40) (len i : Int) (x : S40) (h0 : 0 ≤ i) (h1 : i < len) (h2 : i < (l.length : Int)) (hl : len ≤ 4398046511104) (hx : rd_T40 l i = x) (hi : inb x) (hd : x.f1.length ≤ 65535) (hs : acc.length + (one x).length < 140737488355328) :
    tlv_Join.l0 (k + 5) acc l len i = tlv_Join.l0 k (acc ++ one x) l len (i + 1) := by
  obtain ⟨hi0, hi1⟩ := hi
  rw [one_len] at hs
  have s8 : (shr .i64 (x.f1.length : Int) 8) % 256 = (x.f1.length : Int) / 256 := by
    rw [show shr .i64 (x.f1.length : Int) 8 = (x.f1.length : Int) / 256 from rfl]; omega
  have s0 : (shr .i64 (x.f1.length : Int) 0) % 256 = (x.f1.length : Int) % 256 := by
    rw [show shr .i64 (x.f1.length : Int) 0 = (x.f1.length : Int) / 1 from rfl]; omega
  have t : x.f0 % 256 = x.f0 := by omega
  have w1 : wrap64 (8 - wrap64 (8 * 0)) = 8 := by unfold wrap64; omega
  have w2 : wrap64 (8 - wrap64 (8 * 1)) = 0 := by unfold wrap64; omega
  have w3 : wrap64 (0 + 1) = 1 := by unfold wrap64; omega
  have w4 : wrap64 (1 + 1) = 2 := by unfold wrap64; omega
  have w5 : wrap64 (i + 1) = i + 1 := w64 (by omega) (by omega)
  rw [tlv_Join.l0, if_pos h1, if_pos h0, if_pos h2, hx, if_neg (by omega), decide_eq_false (show ¬ x.f0 > 255 by omega)]
  rw [tlv_Join.j1, if_neg (by simp), if_neg (by omega), if_pos (by omega), t]
  rw [tlv_Join.l1, w1, if_pos (by decide), if_pos (by decide), if_pos (by simp; omega), s8, w3]
  rw [tlv_Join.l1, w2, if_pos (by decide), if_pos (by decide), if_pos (by simp; omega), s0, w4]
  rw [tlv_Join.l1, if_neg (by decide), if_pos (by simp; omega), w5]
  congr 1
  simp [one]
theorem join_run (l : List S40) (hlen : l.length ≤ 1000) (hg : ∀ x ∈ l, x.f1.length ≤ 65535) : ∀ (rest done : List S40) (acc : List Int), l = done ++ rest → (∀ x ∈ rest, inb x) → acc.length ≤ 70000 * done.length →
    ∃ k, tlv_Join.l0 k acc l (l.length : Int) (done.length : Int) = some (acc ++ flat rest, 0)
  | [], done, acc, hl, _, _ => ⟨1, by
      have : (done.length : Int) = l.length := by rw [hl]; simp
      rw [tlv_Join.l0, if_neg (by omega)]; simp [flat]⟩
  | x :: rest, done, acc, hl, hi, ha => by
    have hll : l.length = done.length + rest.length + 1 := by rw [hl]; simp; omega
    have hx : rd_T40 l (done.length : Int) = x := by rw [hl]; exact rd_mid _ _ _
    have hd := hg x (by rw [hl]; simp)
    have ho := one_len x
    obtain ⟨k, hk⟩ := join_run l hlen hg rest (done ++ [x]) (acc ++ one x) (by rw [hl]; simp) (fun y hy => hi y (List.mem_cons_of_mem _ hy)) (by simp; omega)
    refine ⟨k + 5, ?_⟩
    rw [join_one k acc l _ _ x (by omega) (by omega) (by omega) (by omega) hx (hi x (List.mem_cons_self)) hd (by omega)]
    rw [show ((done ++ [x]).length : Int) = (done.length : Int) + 1 by simp] at hk
    rw [hk]; simp [flat]
theorem join_ok (l : List S40) (hlen : l.length ≤ 1000) (hg : ∀ x ∈ l, x.f1.length ≤ 65535) (hi : ∀ x ∈ l, inb x) : ∃ k, tlv_Join.f k l = some (flat l, 0) := by
  obtain ⟨k, hk⟩ := join_run l hlen hg l [] [] rfl hi (by simp)
  exact ⟨k, by simpa [tlv_Join.f] using hk⟩
theorem join_bad_run (l : List S40) (hlen : l.length ≤ 1000) (hg : ∀ x ∈ l, x.f1.length ≤ 65535) : ∀ (rest done : List S40) (acc : List Int), l = done ++ rest → (∃ x ∈ rest, ¬ inb x) → acc.length ≤ 70000 * done.length →
    ∃ k, tlv_Join.l0 k acc l (l.length : Int) (done.length : Int) = some ([], 5)
  | [], done, acc, hl, h, _ => by obtain ⟨x, hx, _⟩ := h; simp at hx
  | x :: rest, done, acc, hl, hi, ha => by
    have hll : l.length = done.length + rest.length + 1 := by rw [hl]; simp; omega
    have hx : rd_T40 l (done.length : Int) = x := by rw [hl]; exact rd_mid _ _ _
    have hd := hg x (by rw [hl]; simp)
    have ho := one_len x
    by_cases hxi : inb x
    · obtain ⟨k, hk⟩ := join_bad_run l hlen hg rest (done ++ [x]) (acc ++ one x) (by rw [hl]; simp) (by
        obtain ⟨y, hy, hn⟩ := hi
        rcases List.mem_cons.1 hy with rfl | hy
        · exact absurd hxi hn
        · exact ⟨y, hy, hn⟩) (by simp; omega)
      refine ⟨k + 5, ?_⟩
      rw [join_one k acc l _ _ x (by omega) (by omega) (by omega) (by omega) hx hxi hd (by omega)]
      rw [show ((done ++ [x]).length : Int) = (done.length : Int) + 1 by simp] at hk
      exact hk
    · refine ⟨2, ?_⟩
      rw [tlv_Join.l0, if_pos (by omega), if_pos (by omega), if_pos (by omega), hx]
      by_cases hneg : x.f0 < 0
      · rw [if_pos hneg, tlv_Join.j1, if_pos rfl]
      · rw [if_neg hneg, decide_eq_true (show x.f0 > 255 by unfold inb at hxi; omega), tlv_Join.j1, if_pos rfl]
theorem join_bad (l : List S40) (hlen : l.length ≤ 1000) (hg : ∀ x ∈ l, x.f1.length ≤ 65535) (hi : ∃ x ∈ l, ¬ inb x) : ∃ k, tlv_Join.f k l = some ([], 5) := by
  obtain ⟨k, hk⟩ := join_bad_run l hlen hg l [] [] rfl hi (by simp)
  exact ⟨k, by simpa [tlv_Join.f] using hk⟩
theorem leo_up {α : Type} {f : Nat → Option α} (h : ∀ k, LeO (f k) (f (k + 1))) {k : Nat} {r : α} (hk : f k = some r) : ∀ d, f (k + d) = some r
  | 0 => hk
  | d + 1 => h _ _ (leo_up h hk d)
theorem leo_le {α : Type} {f : Nat → Option α} (h : ∀ k, LeO (f k) (f (k + 1))) {k m : Nat} {r : α} (hk : f k = some r) (hm : k ≤ m) : f m = some r := by
  have := leo_up h hk (m - k)
  rwa [show k + (m - k) = m by omega] at this
/-! what bytes are split into, plainly -/
def bytesOk (l : List Int) : Prop := ∀ c ∈ l, 0 ≤ c ∧ c ≤ 255
open Octet (Rd stepF numN num) in
theorem step_mid (pre p post : List Int) (n : Int) (hn : n = (p.length : Int)) : stepF ⟨pre ++ (p ++ post), pre.length, false⟩ n = (some p, ⟨pre ++ (p ++ post), (pre ++ p).length, false⟩) := by
  unfold stepF
  subst hn
  rw [if_neg (by simp), if_neg (by simp; omega)]
  simp
open Octet (Rd stepF numN num) in
theorem num_mid (pre p post : List Int) (n : Int) (hn : n = (p.length : Int)) (h1 : 1 ≤ n) (h7 : n ≤ 7) (hb : bytesOk p) : octet_Reader_Num.f ⟨pre ++ (p ++ post), pre.length, false⟩ n = some (num p, ⟨pre ++ (p ++ post), (pre ++ p).length, false⟩) := by
  have hnn : numN n = n := by unfold numN; rw [if_neg (by omega)]
  unfold octet_Reader_Num.f
  rw [hnn, step_mid pre p post n hn, if_pos (by simpa [bytesOk] using hb)]
  rfl
open Octet (Rd stepF numN num) in
theorem num_short (b : List Int) (i : Nat) (n : Int) (h1 : 1 ≤ n) (h7 : n ≤ 7) (hs : (b.length : Int) - i < n) : octet_Reader_Num.f ⟨b, i, false⟩ n = some (0, ⟨b, i, true⟩) := by
  have hnn : numN n = n := by unfold numN; rw [if_neg (by omega)]
  have hst : stepF ⟨b, i, false⟩ n = (none, ⟨b, i, true⟩) := by unfold stepF; rw [if_neg (by simp), if_pos (by right; show n > (b.length : Int) - i; omega)]
  unfold octet_Reader_Num.f
  rw [hnn, hst, if_pos (by simp)]
  rfl
open Octet (Rd stepF numN num) in
theorem num_gone (b : List Int) (i : Nat) (n : Int) : octet_Reader_Num.f ⟨b, i, true⟩ n = some (0, ⟨b, i, true⟩) := by
  have hst : stepF ⟨b, i, true⟩ (numN n) = (none, ⟨b, i, true⟩) := by unfold stepF; rw [if_pos rfl]
  unfold octet_Reader_Num.f
  rw [hst, if_pos (by simp)]
  rfl
open Octet (Rd stepF numN num) in
theorem take_mid (pre p post : List Int) (n : Int) (hn : n = (p.length : Int)) : octet_Reader_Take.f ⟨pre ++ (p ++ post), pre.length, false⟩ n = some (p, ⟨pre ++ (p ++ post), (pre ++ p).length, false⟩) := by
  unfold octet_Reader_Take.f
  rw [step_mid pre p post n hn]
  rfl
open Octet (Rd stepF numN num) in
theorem take_short (b : List Int) (i : Nat) (n : Int) (h0 : 0 ≤ n) (hs : (b.length : Int) - i < n) : octet_Reader_Take.f ⟨b, i, false⟩ n = some ([], ⟨b, i, true⟩) := by
  unfold octet_Reader_Take.f stepF
  rw [if_neg (by simp), if_pos (by right; show n > (b.length : Int) - i; omega)]
  rfl
open Octet (Rd stepF numN num) in
theorem take_gone (b : List Int) (i : Nat) (n : Int) : octet_Reader_Take.f ⟨b, i, true⟩ n = some ([], ⟨b, i, true⟩) := by
  unfold octet_Reader_Take.f stepF
  rw [if_pos rfl]
  rfl
theorem split_one (k : Nat) (pre d post : List Int) (a h l : Int) (acc : List S40) (hb : bytesOk [a, h, l]) (hd : h * 256 + l = (d.length : Int)) (hs : acc.length < 4398046511104) :
    tlv_Split.l0 (k + 1) acc ⟨pre ++ (a :: h :: l :: d ++ post), pre.length, false⟩ = tlv_Split.l0 k (acc ++ [⟨a, d⟩]) ⟨(pre ++ (a :: h :: l :: d)) ++ post, (pre ++ (a :: h :: l :: d)).length, false⟩ := by
  have e1 : pre ++ (a :: h :: l :: d ++ post) = pre ++ ([a] ++ (h :: l :: d ++ post)) := by simp
  have e2 : pre ++ ([a] ++ (h :: l :: d ++ post)) = (pre ++ [a]) ++ ([h, l] ++ (d ++ post)) := by simp
  have e3 : (pre ++ [a]) ++ ([h, l] ++ (d ++ post)) = (pre ++ [a] ++ [h, l]) ++ (d ++ post) := by simp
  have e4 : (pre ++ [a] ++ [h, l]) ++ (d ++ post) = (pre ++ (a :: h :: l :: d)) ++ post := by simp
  have e5 : (pre ++ [a] ++ [h, l] ++ d).length = (pre ++ (a :: h :: l :: d)).length := by simp
  have n1 : Octet.num [a] = a := by simp [Octet.num]
  have n2 : Octet.num [h, l] = (d.length : Int) := by rw [← hd]; simp [Octet.num]
  have b1 : bytesOk [a] := fun c hc => hb c (by simp at hc; simp [hc])
  have b2 : bytesOk [h, l] := fun c hc => hb c (by simp at hc; rcases hc with rfl | rfl <;> simp)
  rw [tlv_Split.l0]
  unfold octet_Reader_Left.f octet_Reader_Bad.f
  simp only [Option.bind_some, Bool.false_eq_true, if_false]
  rw [if_pos (by simp; omega), e1, num_mid pre [a] _ 1 rfl (by omega) (by omega) b1]
  simp only [Option.bind_some]
  rw [e2, num_mid (pre ++ [a]) [h, l] _ 2 rfl (by omega) (by omega) b2]
  simp only [Option.bind_some]
  rw [e3, n2, take_mid (pre ++ [a] ++ [h, l]) d post _ rfl]
  simp only [Option.bind_some, Bool.false_eq_true, if_false]
  rw [if_pos hs, n1, e4, e5]
theorem split_end (k : Nat) (b : List Int) (i : Nat) (acc : List S40) (h : b.length ≤ i) : tlv_Split.l0 (k + 1) acc ⟨b, i, false⟩ = some (acc, 0) := by
  rw [tlv_Split.l0]
  unfold octet_Reader_Left.f
  simp only [Option.bind_some, Bool.false_eq_true, if_false]
  rw [if_neg (by omega)]
theorem split_run : ∀ (rest : List S40) (pre : List Int) (acc : List S40), (∀ x ∈ rest, inb x ∧ x.f1.length ≤ 65535) → acc.length + rest.length ≤ 1000000 → ∃ k, tlv_Split.l0 k acc ⟨pre ++ flat rest, pre.length, false⟩ = some (acc ++ rest, 0)
  | [], pre, acc, _, _ => ⟨1, by rw [split_end 0 _ _ _ (by simp [flat])]; simp⟩
  | x :: rest, pre, acc, hg, ha => by
    obtain ⟨k, hk⟩ := split_run rest (pre ++ one x) (acc ++ [x]) (fun y hy => hg y (List.mem_cons_of_mem _ hy)) (by simp at ha ⊢; omega)
    obtain ⟨hx, hd⟩ := hg x List.mem_cons_self
    refine ⟨k + 1, ?_⟩
    have := split_one k pre x.f1 (flat rest) x.f0 ((x.f1.length : Int) / 256) ((x.f1.length : Int) % 256) acc (by
      intro c hc; simp at hc; unfold inb at hx
      rcases hc with rfl | rfl | rfl <;> omega) (by omega) (by simp at ha; omega)
    rw [show pre ++ flat (x :: rest) = pre ++ (x.f0 :: (x.f1.length : Int) / 256 :: (x.f1.length : Int) % 256 :: x.f1 ++ flat rest) by simp [flat, one], this]
    rw [show (acc ++ [⟨x.f0, x.f1⟩] : List S40) = acc ++ [x] from rfl, show (x.f0 :: (x.f1.length : Int) / 256 :: (x.f1.length : Int) % 256 :: x.f1) = one x from rfl, hk]
    simp
theorem split_ok (l : List S40) (hg : ∀ x ∈ l, inb x ∧ x.f1.length ≤ 65535) (hl : l.length ≤ 1000000) (hf : (flat l).length ≤ 1000000) : ∃ k, tlv_Split.f k (flat l) = some (l, 0) := by
  obtain ⟨k, hk⟩ := split_run l [] [] hg (by simpa using hl)
  refine ⟨k, ?_⟩
  unfold tlv_Split.f octet_Read.f
  rw [if_pos hf]
  simpa using hk
/-- The items that bytes are, if they are some. -/
def parse : Nat → List Int → Option (List S40)
  | _, [] => some []
  | 0, _ :: _ => none
  | f + 1, a :: t => match t with
    | h :: l :: t2 => if h * 256 + l ≤ (t2.length : Int) then (parse f (t2.drop (h * 256 + l).toNat)).map (⟨a, t2.take (h * 256 + l).toNat⟩ :: ·) else none
    | _ => none
theorem split_short (k : Nat) (pre t : List Int) (acc : List S40) (hb : bytesOk t) (ht : t ≠ []) (h : t.length < 3 ∨ ∃ a h l t2, t = a :: h :: l :: t2 ∧ (t2.length : Int) < h * 256 + l) :
    tlv_Split.l0 (k + 1) acc ⟨pre ++ t, pre.length, false⟩ = some ([], 2) := by
  have n2 : ∀ h l, Octet.num [h, l] = h * 256 + l := fun h l => by simp [Octet.num]
  rw [tlv_Split.l0]
  unfold octet_Reader_Left.f octet_Reader_Bad.f
  simp only [Option.bind_some, Bool.false_eq_true, if_false]
  have hpos : 0 < t.length := List.length_pos_iff.2 ht
  rw [if_pos (by simp; omega)]
  match t, hb, ht, h with
  | [a], hb, _, _ =>
    rw [show pre ++ [a] = pre ++ ([a] ++ []) by simp, num_mid pre [a] [] 1 rfl (by omega) (by omega) hb]
    simp only [Option.bind_some]
    rw [num_short _ _ 2 (by omega) (by omega) (by simp)]
    simp only [Option.bind_some]
    rw [take_gone]
    simp
  | [a, b], hb, _, _ =>
    rw [show pre ++ [a, b] = pre ++ ([a] ++ [b]) by simp, num_mid pre [a] [b] 1 rfl (by omega) (by omega) (fun c hc => hb c (by simp at hc; simp [hc]))]
    simp only [Option.bind_some]
    rw [num_short _ _ 2 (by omega) (by omega) (by simp; omega)]
    simp only [Option.bind_some]
    rw [take_gone]
    simp
  | a :: x :: y :: t2, hb, _, h =>
    have hlt : (t2.length : Int) < x * 256 + y := by
      rcases h with h | ⟨a', h', l', t2', he, hlt⟩
      · simp at h; omega
      · simp only [List.cons.injEq] at he
        obtain ⟨_, rfl, rfl, rfl⟩ := he
        exact hlt
    rw [show pre ++ a :: x :: y :: t2 = pre ++ ([a] ++ (x :: y :: t2)) by simp, num_mid pre [a] _ 1 rfl (by omega) (by omega) (fun c hc => hb c (by simp at hc; simp [hc]))]
    simp only [Option.bind_some]
    rw [show pre ++ ([a] ++ (x :: y :: t2)) = (pre ++ [a]) ++ ([x, y] ++ t2) by simp, num_mid (pre ++ [a]) [x, y] _ 2 rfl (by omega) (by omega) (fun c hc => hb c (by simp at hc; rcases hc with rfl | rfl <;> simp))]
    simp only [Option.bind_some]
    rw [n2, take_short _ _ _ (by omega) (by simp; omega)]
    simp
/-- What splitting comes to, wherever it stands. -/
theorem split_parse : ∀ (f : Nat) (t pre : List Int) (acc : List S40), t.length ≤ f → bytesOk t → acc.length + t.length ≤ 1000000 → ∃ k, tlv_Split.l0 k acc ⟨pre ++ t, pre.length, false⟩ = some (match parse f t with | some l => (acc ++ l, 0) | none => ([], 2))
  | f, [], pre, acc, _, _, _ => ⟨1, by
      rw [split_end 0 _ _ _ (by simp)]
      cases f <;> simp [parse]⟩
  | 0, _ :: _, _, _, h, _, _ => by simp at h
  | f + 1, [a], pre, acc, _, hb, _ => ⟨1, by rw [split_short 0 pre [a] acc hb (by simp) (.inl (by simp))]; simp [parse]⟩
  | f + 1, [a, b], pre, acc, _, hb, _ => ⟨1, by rw [split_short 0 pre [a, b] acc hb (by simp) (.inl (by simp))]; simp [parse]⟩
  | f + 1, a :: h :: l :: t2, pre, acc, hf, hb, ha => by
    have bh := hb h (by simp)
    have bl := hb l (by simp)
    by_cases hle : h * 256 + l ≤ (t2.length : Int)
    · obtain ⟨d, hd⟩ : ∃ d, d = t2.take (h * 256 + l).toNat := ⟨_, rfl⟩
      obtain ⟨r, hr⟩ : ∃ r, r = t2.drop (h * 256 + l).toNat := ⟨_, rfl⟩
      have hdr : t2 = d ++ r := by rw [hd, hr, List.take_append_drop]
      have hdl : h * 256 + l = (d.length : Int) := by rw [hd, List.length_take]; omega
      have hrl : r.length ≤ t2.length := by rw [hr, List.length_drop]; omega
      obtain ⟨k, hk⟩ := split_parse f r (pre ++ (a :: h :: l :: d)) (acc ++ [⟨a, d⟩]) (by simp at hf; omega) (fun c hc => hb c (by rw [hdr]; simp [hc])) (by simp at ha ⊢; omega)
      refine ⟨k + 1, ?_⟩
      have := split_one k pre d r a h l acc (fun c hc => hb c (by simp at hc ⊢; rcases hc with rfl | rfl | rfl <;> simp)) hdl (by simp at ha; omega)
      rw [show pre ++ a :: h :: l :: t2 = pre ++ (a :: h :: l :: d ++ r) by rw [hdr]; simp, this, hk]
      have hp : parse (f + 1) (a :: h :: l :: t2) = (parse f r).map (⟨a, d⟩ :: ·) := by
        rw [hd, hr]; simp [parse, hle]
      rw [hp]
      cases parse f r <;> simp
    · refine ⟨1, ?_⟩
      rw [split_short 0 pre _ acc hb (by simp) (.inr ⟨a, h, l, t2, rfl, by omega⟩)]
      simp [parse, hle]
theorem split_is (b : List Int) (hb : bytesOk b) (hl : b.length ≤ 400) : ∃ k, tlv_Split.f k b = some (match parse b.length b with | some l => (l, 0) | none => ([], 2)) := by
  obtain ⟨k, hk⟩ := split_parse b.length b [] [] (Nat.le_refl _) hb (by simp; omega)
  refine ⟨k, ?_⟩
  unfold tlv_Split.f octet_Read.f
  rw [if_pos (by omega)]
  simpa using hk
/-- Items that bytes are make up just these bytes. -/
theorem parse_flat : ∀ (f : Nat) (t : List Int) (l : List S40), bytesOk t → parse f t = some l → flat l = t ∧ ∀ x ∈ l, inb x ∧ x.f1.length ≤ 65535
  | f, [], l, _, h => by
    have : l = [] := by cases f <;> simpa [parse, eq_comm] using h
    subst this
    exact ⟨rfl, fun x hx => by simp at hx⟩
  | 0, _ :: _, _, _, h => by simp [parse] at h
  | f + 1, [a], _, _, h => by simp [parse] at h
  | f + 1, [a, b], _, _, h => by simp [parse] at h
  | f + 1, a :: h :: l :: t2, L, hb, hp => by
    have ba := hb a (by simp)
    have bh := hb h (by simp)
    have bl := hb l (by simp)
    by_cases hle : h * 256 + l ≤ (t2.length : Int)
    · simp only [parse, if_pos hle] at hp
      obtain ⟨m, hm, rfl⟩ := Option.map_eq_some_iff.1 hp
      have hdl : h * 256 + l = ((t2.take (h * 256 + l).toNat).length : Int) := by rw [List.length_take]; omega
      obtain ⟨h1, h2⟩ := parse_flat f _ m (fun c hc => hb c (by have := List.mem_of_mem_drop hc; simp [this])) hm
      refine ⟨?_, fun x hx => ?_⟩
      · simp only [flat, one, h1]
        rw [← hdl, show (h * 256 + l) / 256 = h by omega, show (h * 256 + l) % 256 = l by omega]
        simp
      · rcases List.mem_cons.1 hx with rfl | hx
        · exact ⟨ba, by show (t2.take (h * 256 + l).toNat).length ≤ 65535; omega⟩
        · exact h2 x hx
    · simp [parse, hle] at hp
theorem rd_at (pre : List Int) (c : Int) (t : List Int) (i : Int) (hi : i = (pre.length : Int)) : rd (pre ++ c :: t) i = c := by subst hi; simp [rd]
theorem splits_bad (b : List Int) : ∀ (f : Nat) (t pre : List Int) (acc : List S40), b = pre ++ t → b.length ≤ 400 → t.length ≤ f → bytesOk t → acc.length ≤ pre.length → parse f t = none → ∃ k, polyglotlaw12_TlvSplits.l0 k b [] 2 acc (pre.length : Int) = some true
  | f, [], pre, acc, _, _, _, _, _, h => by cases f <;> simp [parse] at h
  | 0, _ :: _, _, _, _, _, h, _, _, _ => by simp at h
  | f + 1, a :: t', pre, acc, he, hl, hf, hb, ha, hp => by
    have hlb : b.length = pre.length + (t'.length + 1) := by rw [he]; simp
    by_cases h3 : t'.length < 2
    · refine ⟨1, ?_⟩
      rw [polyglotlaw12_TlvSplits.l0, if_pos (by omega), w64 (n := (b.length : Int) - pre.length) (by omega) (by omega), if_pos (by omega), if_pos (by simp), if_pos rfl]
      rfl
    · match t', h3, he, hf, hb, hp, hlb with
      | [], h3, _, _, _, _, _ => exact absurd (by simp) h3
      | [_], h3, _, _, _, _, _ => exact absurd (by simp) h3
      | h :: l :: t2, _, he, hf, hb, hp, hlb =>
        have bh := hb h (by simp)
        have bl := hb l (by simp)
        simp at hlb
        have r1 : Aside0 (rd b (wrap64 ((pre.length : Int) + 1)) = h) := ⟨by
          rw [w64 (by omega) (by omega), he, show pre ++ a :: h :: l :: t2 = (pre ++ [a]) ++ h :: l :: t2 by simp]
          exact rd_at _ _ _ _ (by simp)⟩
        have r2 : Aside0 (rd b (wrap64 ((pre.length : Int) + 2)) = l) := ⟨by
          rw [w64 (by omega) (by omega), he, show pre ++ a :: h :: l :: t2 = (pre ++ [a, h]) ++ l :: t2 by simp]
          exact rd_at _ _ _ _ (by simp)⟩
        have r0 : Aside0 (rd b (pre.length : Int) = a) := ⟨by rw [he]; exact rd_at _ _ _ _ rfl⟩
        have s1 : Aside0 (wrap64 ((pre.length : Int) + 1) = (pre.length : Int) + 1) := ⟨w64 (n := (pre.length : Int) + 1) (by omega) (by omega)⟩
        have s2 : Aside0 (wrap64 ((pre.length : Int) + 2) = (pre.length : Int) + 2) := ⟨w64 (n := (pre.length : Int) + 2) (by omega) (by omega)⟩
        have s3 : Aside0 (wrap64 ((pre.length : Int) + 3) = (pre.length : Int) + 3) := ⟨w64 (n := (pre.length : Int) + 3) (by omega) (by omega)⟩
        have sn : Aside0 (wrap64 (wrap64 (wrap64 h * 256) + wrap64 l) = h * 256 + l) := ⟨by
          rw [w64 (n := h) (by omega) (by omega), w64 (n := l) (by omega) (by omega), w64 (n := h * 256) (by omega) (by omega), w64 (by omega) (by omega)]⟩
        have sl : Aside0 (wrap64 ((b.length : Int) - pre.length) = t2.length + 3) := ⟨by rw [w64 (by omega) (by omega)]; omega⟩
        have sl3 : Aside0 (wrap64 ((t2.length : Int) + 3 - 3) = t2.length) := ⟨by rw [w64 (by omega) (by omega)]; omega⟩
        by_cases hle : h * 256 + l ≤ (t2.length : Int)
        · obtain ⟨d, hd⟩ : ∃ d, d = t2.take (h * 256 + l).toNat := ⟨_, rfl⟩
          obtain ⟨r, hr⟩ : ∃ r, r = t2.drop (h * 256 + l).toNat := ⟨_, rfl⟩
          have hdr : t2 = d ++ r := by rw [hd, hr, List.take_append_drop]
          have hdl : h * 256 + l = (d.length : Int) := by rw [hd, List.length_take]; omega
          have hrl : r.length ≤ t2.length := by rw [hr, List.length_drop]; omega
          have hpr : parse f r = none := by
            simp only [parse, if_pos hle, Option.map_eq_none_iff] at hp
            rw [hr]; exact hp
          have s4 : Aside0 (wrap64 ((pre.length : Int) + 3 + (h * 256 + l)) = ((pre ++ (a :: h :: l :: d)).length : Int)) := ⟨by rw [w64 (by omega) (by omega)]; simp; omega⟩
          obtain ⟨k, hk⟩ := splits_bad b f r (pre ++ (a :: h :: l :: d)) (acc ++ [⟨a, d⟩]) (by rw [he, hdr]; simp) hl (by simp at hf; omega) (fun c hc => hb c (by rw [hdr]; simp [hc])) (by simp; omega) hpr
          refine ⟨k + 1, ?_⟩
          have hcut : Aside0 ((b.take ((((pre ++ (a :: h :: l :: d)).length : Int)).toNat)).drop ((pre.length : Int) + 3).toNat = d) := ⟨by
            rw [Int.toNat_natCast, he, hdr, show pre ++ a :: h :: l :: (d ++ r) = (pre ++ (a :: h :: l :: d)) ++ r by simp, List.take_left, show ((pre.length : Int) + 3).toNat = (pre ++ [a, h, l]).length by simp; omega, show pre ++ (a :: h :: l :: d) = (pre ++ [a, h, l]) ++ d by simp, List.drop_left]⟩
          have hpl : ((pre ++ (a :: h :: l :: d)).length : Int) = pre.length + 3 + d.length := by simp; omega
          rw [polyglotlaw12_TlvSplits.l0, r1.out, r2.out, r0.out, sn.out, sl.out, sl3.out, s1.out, s2.out, s3.out, s4.out, hcut.out, w64 (n := a) (by have := hb a (by simp); omega) (by have := hb a (by simp); omega)]
          rw [if_pos (by omega), if_neg (by omega), if_pos (by omega), if_pos (by omega), if_pos (by omega), if_pos (by omega), if_neg (by omega), if_pos (by omega), if_pos (by omega), if_pos (by omega), if_pos (by omega), if_pos (by omega), hk]
        · refine ⟨1, ?_⟩
          rw [polyglotlaw12_TlvSplits.l0, r1.out, r2.out, r0.out, sn.out, sl.out, sl3.out, s1.out, s2.out]
          rw [if_pos (by omega), if_neg (by omega), if_pos (by omega), if_pos (by omega), if_pos (by omega), if_pos (by omega), if_pos (by omega), if_pos (by simp), if_pos rfl]
          rfl
theorem splits_good (b : List Int) (L : List S40) (hfl : flat L = b) (hg : ∀ x ∈ L, inb x ∧ x.f1.length ≤ 65535) (hLl : L.length ≤ 400) (hl : b.length ≤ 400) : ∀ (rest done : List S40), L = done ++ rest → ∃ k, polyglotlaw12_TlvSplits.l0 k b L 0 done ((flat done).length : Int) = some true
  | [], done, he => by
    have e : done = L := by rw [he]; simp
    subst e
    obtain ⟨k, hk⟩ := join_ok done (by omega) (fun x hx => (hg x hx).2) (fun x hx => (hg x hx).1)
    refine ⟨k + 1, ?_⟩
    rw [polyglotlaw12_TlvSplits.l0, if_neg (by rw [hfl]; omega), hk]
    simp only [Option.bind_some]
    unfold polyglotlaw12_same.f polyglotlaw12_awake.f
    simp [hfl]
  | x :: rest, done, he => by
    obtain ⟨hi, hd⟩ := hg x (by rw [he]; simp)
    unfold inb at hi
    have hb : b = flat done ++ (x.f0 :: (x.f1.length : Int) / 256 :: (x.f1.length : Int) % 256 :: (x.f1 ++ flat rest)) := by
      rw [← hfl, he, flat_append]; simp [flat, one]
    have hlb : b.length = (flat done).length + (x.f1.length + (flat rest).length + 3) := by rw [hb]; simp
    obtain ⟨pre, hpre⟩ : ∃ pre, pre = flat done := ⟨_, rfl⟩
    rw [← hpre] at hb hlb ⊢
    have r1 : Aside0 (rd b (wrap64 ((pre.length : Int) + 1)) = (x.f1.length : Int) / 256) := ⟨by
      rw [w64 (by omega) (by omega), hb, show ∀ a h (t : List Int), pre ++ a :: h :: t = (pre ++ [a]) ++ h :: t by intros; simp]
      exact rd_at _ _ _ _ (by simp)⟩
    have r2 : Aside0 (rd b (wrap64 ((pre.length : Int) + 2)) = (x.f1.length : Int) % 256) := ⟨by
      rw [w64 (by omega) (by omega), hb, show ∀ a h l (t : List Int), pre ++ a :: h :: l :: t = (pre ++ [a, h]) ++ l :: t by intros; simp]
      exact rd_at _ _ _ _ (by simp)⟩
    have r0 : Aside0 (rd b (pre.length : Int) = x.f0) := ⟨by rw [hb]; exact rd_at _ _ _ _ rfl⟩
    have s1 : Aside0 (wrap64 ((pre.length : Int) + 1) = (pre.length : Int) + 1) := ⟨w64 (n := (pre.length : Int) + 1) (by omega) (by omega)⟩
    have s2 : Aside0 (wrap64 ((pre.length : Int) + 2) = (pre.length : Int) + 2) := ⟨w64 (n := (pre.length : Int) + 2) (by omega) (by omega)⟩
    have s3 : Aside0 (wrap64 ((pre.length : Int) + 3) = (pre.length : Int) + 3) := ⟨w64 (n := (pre.length : Int) + 3) (by omega) (by omega)⟩
    have sn : Aside0 (wrap64 (wrap64 (wrap64 ((x.f1.length : Int) / 256) * 256) + wrap64 ((x.f1.length : Int) % 256)) = (x.f1.length : Int)) := ⟨by
      rw [w64 (n := (x.f1.length : Int) / 256) (by omega) (by omega), w64 (n := (x.f1.length : Int) % 256) (by omega) (by omega), w64 (n := (x.f1.length : Int) / 256 * 256) (by omega) (by omega), w64 (by omega) (by omega)]; omega⟩
    have sl : Aside0 (wrap64 ((b.length : Int) - pre.length) = x.f1.length + (flat rest).length + 3) := ⟨by rw [w64 (by omega) (by omega)]; omega⟩
    have sl3 : Aside0 (wrap64 ((x.f1.length : Int) + (flat rest).length + 3 - 3) = x.f1.length + (flat rest).length) := ⟨by rw [w64 (by omega) (by omega)]; omega⟩
    have hfd : flat (done ++ [x]) = pre ++ one x := by rw [hpre, flat_append]; simp [flat]
    have ho := one_len x
    have s4 : Aside0 (wrap64 ((pre.length : Int) + 3 + x.f1.length) = ((flat (done ++ [x])).length : Int)) := ⟨by rw [w64 (by omega) (by omega), hfd]; simp; omega⟩
    have hcut : Aside0 ((b.take (((flat (done ++ [x])).length : Int).toNat)).drop ((pre.length : Int) + 3).toNat = x.f1) := ⟨by
      rw [Int.toNat_natCast, hfd, hb, show pre ++ x.f0 :: (x.f1.length : Int) / 256 :: (x.f1.length : Int) % 256 :: (x.f1 ++ flat rest) = (pre ++ one x) ++ flat rest by simp [one], List.take_left, show ((pre.length : Int) + 3).toNat = (pre ++ [x.f0, (x.f1.length : Int) / 256, (x.f1.length : Int) % 256]).length by simp; omega, show pre ++ one x = (pre ++ [x.f0, (x.f1.length : Int) / 256, (x.f1.length : Int) % 256]) ++ x.f1 by simp [one], List.drop_left]⟩
    have hLd : L.length = done.length + rest.length + 1 := by rw [he]; simp; omega
    obtain ⟨k, hk⟩ := splits_good b L hfl hg hLl hl rest (done ++ [x]) (by rw [he]; simp)
    have hpl : ((flat (done ++ [x])).length : Int) = pre.length + 3 + x.f1.length := by rw [hfd]; simp; omega
    refine ⟨k + 1, ?_⟩
    rw [polyglotlaw12_TlvSplits.l0, r1.out, r2.out, r0.out, sn.out, sl.out, sl3.out, s1.out, s2.out, s3.out, s4.out, hcut.out, w64 (n := x.f0) (by omega) (by omega)]
    rw [if_pos (by omega), if_neg (by omega), if_pos (by omega), if_pos (by omega), if_pos (by omega), if_pos (by omega), if_neg (by omega), if_pos (by omega), if_pos (by omega), if_pos (by omega), if_pos (by omega), if_pos (by omega)]
    exact hk
theorem flat_count : ∀ (l : List S40), l.length ≤ (flat l).length
  | [] => by simp [flat]
  | x :: l => by have := flat_count l; have := one_len x; simp [flat]; omega
theorem TlvSplits : polyglotlaw12_TlvSplits.Pure := by
  intro b _ hw
  have hb : bytesOk b := fun c hc => by
    have := hw c hc
    simp [Lit.wf, IntKind.min, IntKind.max, IntKind.signed, IntKind.bits] at this
    omega
  by_cases hl : b.length ≤ 400
  · obtain ⟨k1, h1⟩ := split_is b hb hl
    have fin : ∀ L e, (match parse b.length b with | some l => (l, (0 : Int)) | none => ([], 2)) = (L, e) → (∃ k, polyglotlaw12_TlvSplits.l0 k b L e [] 0 = some true) → ∃ k, polyglotlaw12_TlvSplits.f k b = some true := by
      rintro L e he ⟨k2, h2⟩
      rw [he] at h1
      refine ⟨k1 + k2, ?_⟩
      unfold polyglotlaw12_TlvSplits.f
      rw [if_neg (by omega), leo_le (tlv_Split.mono b) h1 (show k1 ≤ k1 + k2 by omega)]
      simp only [Option.bind_some]
      exact leo_le (fun k => polyglotlaw12_TlvSplits.mono_l k b L e [] 0) h2 (show k2 ≤ k1 + k2 by omega)
    cases hp : parse b.length b with
    | none => exact fin [] 2 (by rw [hp]) (splits_bad b b.length b [] [] rfl hl (Nat.le_refl _) hb (Nat.le_refl _) hp)
    | some L =>
      obtain ⟨hf, hg⟩ := parse_flat b.length b L hb hp
      have := flat_count L
      exact fin L 0 (by rw [hp]) (splits_good b L hf hg (by rw [hf] at this; omega) hl L [] rfl)
  · exact ⟨0, by unfold polyglotlaw12_TlvSplits.f polyglotlaw12_awake.f; rw [if_pos (by omega)]; rfl⟩
end Go.Proofs.Ytdamjkfggmmmeab.Pure
