/- Chapter 1: each step of a reader answers as its bytes stand, up to 300 of them and 40 steps; of more it says nothing. -/
import Derived.Test.YtdamjkfggmmmeaaPOcx2
namespace Go.Proofs.Ytdamjkfggmmmeaa.Pure
open Go.RowKit Go.Proofs.Ytdamjkfggmmmeaa.POc Go.Proofs.YtdamjkfggmmmeaaW.PrintWords Go.Proofs.YtdamjkfggmmmeaaW.PrintLast

/-- The statement's own sum is the reader's, of up to seven bytes. -/
theorem number_from (l : List Int) (hb : ∀ c ∈ l, 0 ≤ c ∧ c ≤ 255) (h7 : l.length ≤ 7) : ∀ (j i k : Nat), i + j = l.length → j < k → polyglotlaw01_number.l0 k l (Octet.num (l.take i)) (i : Int) = some (Octet.num l) := by
  intro j
  induction j with
  | zero =>
    intro i k hi hk
    obtain ⟨k, rfl⟩ : ∃ m, k = m + 1 := ⟨k - 1, by omega⟩
    simp only [polyglotlaw01_number.l0]
    rw [if_neg (by omega), List.take_of_length_le (by omega)]
  | succ j ih =>
    intro i k hi hk
    obtain ⟨k, rfl⟩ : ∃ m, k = m + 1 := ⟨k - 1, by omega⟩
    have hlt : i < l.length := by omega
    obtain ⟨c0, c1⟩ := hb l[i] (List.getElem_mem hlt)
    obtain ⟨v0, v1⟩ := Octet.num_small (l.take i) (fun c hc => hb c (List.mem_of_mem_take hc)) (by simp; omega)
    have hr : rd l (i : Int) = l[i] := by simp [rd, hlt]
    have hn : Octet.num (l.take (i + 1)) = Octet.num (l.take i) * 256 + l[i] := by
      rw [show l.take (i + 1) = l.take i ++ [l[i]] by simp [List.take_append_getElem], Octet.num_snoc]
    simp only [polyglotlaw01_number.l0]
    rw [if_pos (by omega), if_pos (by omega), hr]
    generalize Octet.num (l.take i) = V at *
    generalize l[i] = c at *
    rw [show wrap64 (wrap64 (V * 256) + wrap64 c) = V * 256 + c by unfold wrap64; omega, show wrap64 ((i : Int) + 1) = ((i + 1 : Nat) : Int) by unfold wrap64; omega, ← hn]
    exact ih (i + 1) k (by omega) (by omega)
theorem number_is (l : List Int) (hb : ∀ c ∈ l, 0 ≤ c ∧ c ≤ 255) (h7 : l.length ≤ 7) (k : Nat) (hk : 8 ≤ k) : polyglotlaw01_number.f k l = some (Octet.num l) := by
  have := number_from l hb h7 l.length 0 k (by omega) (by omega)
  simpa [polyglotlaw01_number.f, Octet.num] using this

theorem cut_eq (l : List Int) (a n : Nat) : (l.take (a + n)).drop a = (l.drop a).take n := by
  rw [List.drop_take]; congr 1; omega

/-- From j5 on a round ends as it should. -/
theorem ends (l : List Int) (l1 : List S70) (h3 : l.length ≤ 300) (k a : Nat) (bad : Bool) (i : Int) (ha : a ≤ l.length) : polyglotlaw01_OctetReads.j5 (k + 2) l l1 (a : Int) bad i ⟨l, a, bad⟩ = polyglotlaw01_OctetReads.l0 k l l1 (a : Int) bad (wrap64 (i + 1)) ⟨l, a, bad⟩ := by
  have hw : wrap64 ((l.length : Int) - (a : Int)) = (l.length : Int) - (a : Int) := by unfold wrap64; omega
  cases bad with
  | true =>
    simp [polyglotlaw01_OctetReads.j5, polyglotlaw01_OctetReads.j6, octet_Reader_Left.f, octet_Reader_Bad.f, octet_Reader_Done.f]
  | false =>
    have hd : decide (l.length = a) = ((l.length : Int) - (a : Int) == 0) := by
      rw [Bool.eq_iff_iff]; simp; omega
    simp [polyglotlaw01_OctetReads.j5, polyglotlaw01_OctetReads.j6, octet_Reader_Left.f, octet_Reader_Bad.f, octet_Reader_Done.f, hw, hd]
theorem ends4 (l : List Int) (l1 : List S70) (h3 : l.length ≤ 300) (k a : Nat) (bad : Bool) (i n : Int) (ha : a ≤ l.length) (h : bad = true) : polyglotlaw01_OctetReads.j4 (k + 3) l l1 (a : Int) bad i n ⟨l, a, bad⟩ = polyglotlaw01_OctetReads.l0 k l l1 (a : Int) bad (wrap64 (i + 1)) ⟨l, a, bad⟩ := by
  subst h
  rw [polyglotlaw01_OctetReads.j4, if_pos rfl]
  exact ends l l1 h3 k a true i ha
theorem ends4n (l : List Int) (l1 : List S70) (h3 : l.length ≤ 300) (k a m : Nat) (i : Int) (ha : a + m ≤ l.length) : polyglotlaw01_OctetReads.j4 (k + 3) l l1 (a : Int) false i (m : Int) ⟨l, a + m, false⟩ = polyglotlaw01_OctetReads.l0 k l l1 ((a + m : Nat) : Int) false (wrap64 (i + 1)) ⟨l, a + m, false⟩ := by
  rw [polyglotlaw01_OctetReads.j4, if_neg (by simp), show wrap64 ((a : Int) + (m : Int)) = ((a + m : Nat) : Int) by unfold wrap64; omega]
  exact ends l l1 h3 k (a + m) false i ha

/-- Is a step one that can't be done? -/
def Not (l : List Int) (a : Nat) (tk : Bool) (n : Int) : Prop := n < 0 ∨ n > (l.length : Int) - a ∨ (tk = false ∧ (n < 1 ∨ n > 7))
instance (l : List Int) (a : Nat) (tk : Bool) (n : Int) : Decidable (Not l a tk n) := by unfold Not; infer_instance
/-- The step's own number: a number's width as the reader takes it. -/
def wide (tk : Bool) (n : Int) : Int := if tk = true then n else Octet.numN n
theorem step_not (l : List Int) (a : Nat) (bad tk : Bool) (n : Int) (h : bad = true ∨ Not l a tk n) : Octet.stepF ⟨l, a, bad⟩ (wide tk n) = (none, ⟨l, a, true⟩) := by
  unfold Octet.stepF
  by_cases hb : bad = true
  · subst hb; rw [if_pos rfl]
  · rw [if_neg hb, if_pos]
    have h := h.resolve_left hb
    unfold Not at h
    unfold wide Octet.numN
    cases tk <;> simp at h ⊢ <;> (try split) <;> omega
theorem step_can (l : List Int) (a m : Nat) (tk : Bool) (h : ¬ Not l a tk m) : Octet.stepF ⟨l, a, false⟩ (wide tk m) = (some ((l.drop a).take m), ⟨l, a + m, false⟩) := by
  have hw : wide tk m = m := by
    unfold Not at h
    unfold wide Octet.numN
    cases tk <;> simp at h ⊢ <;> omega
  rw [hw]
  unfold Octet.stepF
  unfold Not at h
  rw [if_neg (by simp), if_neg (by simp only; omega)]
  simp
/-- Where the reader stands behind a step. -/
theorem step3 (l : List Int) (l1 : List S70) (h3 : l.length ≤ 300) (hb : ∀ c ∈ l, 0 ≤ c ∧ c ≤ 255) (k a : Nat) (bad : Bool) (i : Nat) (hi : i < l1.length) (ha : a ≤ l.length) (hk : 8 ≤ k)
    (bad' : Bool) (hbad : bad' = (bad || decide (Not l a (rd_T70 l1 i).f0 (rd_T70 l1 i).f1))) :
    ∃ a' : Nat, a' ≤ l.length ∧ polyglotlaw01_OctetReads.j3 (k + 4) l l1 (a : Int) bad' (i : Int) (rd_T70 l1 i).f1 ⟨l, a, bad⟩ = polyglotlaw01_OctetReads.l0 k l l1 (a' : Int) bad' (wrap64 ((i : Int) + 1)) ⟨l, a', bad'⟩ := by
  rw [polyglotlaw01_OctetReads.j3, if_pos (by omega), if_pos (by omega)]
  generalize rd_T70 l1 i = q at hbad ⊢
  obtain ⟨tk, n⟩ := q
  simp only at hbad ⊢
  cases bad' with
  | true =>
    refine ⟨a, ha, ?_⟩
    have hs := step_not l a bad tk n (by simpa using hbad.symm)
    cases tk with
    | true =>
      rw [show wide true n = n from rfl] at hs
      simp only [octet_Reader_Take.f, hs, Option.getD_none, Option.bind_some]
      rw [if_pos trivial, if_pos trivial, if_pos (by simp)]
      exact ends4 l l1 h3 k a true i n ha rfl
    | false =>
      rw [show wide false n = Octet.numN n from rfl] at hs
      simp only [octet_Reader_Num.f, hs, Option.getD_none, List.all_nil]
      rw [if_neg (by simp), if_pos trivial]
      simp only [Option.bind_some]
      rw [if_pos trivial, if_pos (by simp [Octet.num])]
      exact ends4 l l1 h3 k a true i n ha rfl
  | false =>
    have hbn : bad = false ∧ ¬ Not l a tk n := by simpa using hbad.symm
    obtain ⟨rfl, hn⟩ := hbn
    have hn2 := hn
    unfold Not at hn2
    obtain ⟨m, rfl⟩ := Int.eq_ofNat_of_zero_le (show 0 ≤ n by omega)
    have hs := step_can l a m tk hn
    have hw : wrap64 ((a : Int) + (m : Int)) = ((a + m : Nat) : Int) := by unfold wrap64; omega
    have hc : (l.take ((a + m : Nat) : Int).toNat).drop (a : Int).toNat = (l.drop a).take m := by
      rw [Int.toNat_natCast, Int.toNat_natCast]; exact cut_eq l a m
    have hlen : ((l.drop a).take m).length = m := by simp; omega
    refine ⟨a + m, by omega, ?_⟩
    rw [hw]
    cases tk with
    | true =>
      rw [show wide true (m : Int) = m from rfl] at hs
      simp only [octet_Reader_Take.f, hs, Option.getD_some, Option.bind_some]
      rw [if_pos trivial, if_neg (by simp), if_pos (by omega), if_pos (by omega), if_pos (by omega), hc]
      simp only [polyglotlaw01_same.f, Option.bind_some]
      rw [if_pos (by simp)]
      exact ends4n l l1 h3 k a m i (by omega)
    | false =>
      rw [show wide false (m : Int) = Octet.numN m from rfl] at hs
      have hbc : ∀ c ∈ (l.drop a).take m, 0 ≤ c ∧ c ≤ 255 := fun c hc => hb c (List.mem_of_mem_drop (List.mem_of_mem_take hc))
      simp only [octet_Reader_Num.f, hs, Option.getD_some]
      rw [if_neg (by simp), if_pos (List.all_eq_true.2 (fun c hc => by simpa using hbc c hc))]
      simp only [Option.bind_some]
      rw [if_neg (by simp), if_pos (by omega), if_pos (by omega), if_pos (by omega), hc, number_is _ hbc (by simp at hn2; omega) _ (by omega)]
      simp only [Option.bind_some]
      rw [if_pos trivial]
      exact ends4n l l1 h3 k a m i (by omega)
theorem loop (l : List Int) (l1 : List S70) (h3 : l.length ≤ 300) (h4 : l1.length ≤ 40) (hb : ∀ c ∈ l, 0 ≤ c ∧ c ≤ 255) : ∀ (j i a : Nat) (bad : Bool), i + j = l1.length → a ≤ l.length → polyglotlaw01_OctetReads.l0 (6 * j + 10) l l1 (a : Int) bad (i : Int) ⟨l, a, bad⟩ = some true := by
  intro j
  induction j with
  | zero =>
    intro i a bad hi ha
    rw [polyglotlaw01_OctetReads.l0, if_neg (by omega)]
    rfl
  | succ j ih =>
    intro i a bad hi ha
    have hlt : i < l1.length := by omega
    have hw : wrap64 ((l.length : Int) - (a : Int)) = (l.length : Int) - (a : Int) := by unfold wrap64; omega
    have h2 : ∀ z : Bool, polyglotlaw01_OctetReads.j2 (6 * (j + 1) + 9) l l1 (a : Int) bad (i : Int) (rd_T70 l1 i).f1 z ⟨l, a, bad⟩ = polyglotlaw01_OctetReads.j3 (6 * j + 10 + 4) l l1 (a : Int) (bad || z) (i : Int) (rd_T70 l1 i).f1 ⟨l, a, bad⟩ := fun z => by
      rw [show 6 * (j + 1) + 9 = (6 * j + 10 + 4) + 1 by omega, polyglotlaw01_OctetReads.j2]
      cases z
      · rw [if_neg (by simp), Bool.or_false]
      · rw [if_pos rfl, Bool.or_true]
    have key : polyglotlaw01_OctetReads.l0 (6 * (j + 1) + 10) l l1 (a : Int) bad (i : Int) ⟨l, a, bad⟩ = polyglotlaw01_OctetReads.j3 (6 * j + 10 + 4) l l1 (a : Int) (bad || decide (Not l a (rd_T70 l1 i).f0 (rd_T70 l1 i).f1)) (i : Int) (rd_T70 l1 i).f1 ⟨l, a, bad⟩ := by
      rw [← h2, show 6 * (j + 1) + 10 = (6 * (j + 1) + 9) + 1 by omega, polyglotlaw01_OctetReads.l0, if_pos (by omega), if_pos (by omega), hw]
      obtain ⟨tk, n⟩ := rd_T70 l1 i
      simp only
      by_cases c1 : n < 0
      · rw [if_pos c1, show decide (Not l a tk n) = true from decide_eq_true (by unfold Not; omega)]
      · rw [if_neg c1]
        by_cases c2 : n > (l.length : Int) - a
        · rw [if_pos c2, show decide (Not l a tk n) = true from decide_eq_true (by unfold Not; omega)]
        · rw [if_neg c2]
          cases tk with
          | true => rw [if_pos rfl, show decide (Not l a true n) = false from decide_eq_false (by unfold Not; simp; omega)]
          | false =>
            rw [if_neg (by simp)]
            by_cases c3 : n < 1
            · rw [if_pos c3, show decide (Not l a false n) = true from decide_eq_true (by unfold Not; simp; omega)]
            · rw [if_neg c3]
              congr 1
              rw [decide_eq_decide]
              unfold Not
              simp
              omega
    obtain ⟨a', ha', e⟩ := step3 l l1 h3 hb (6 * j + 10) a bad i hlt ha (by omega) _ rfl
    rw [key, e, show wrap64 ((i : Int) + 1) = ((i + 1 : Nat) : Int) by unfold wrap64; omega]
    exact ih (i + 1) a' _ (by omega) ha'

theorem OctetReads : polyglotlaw01_OctetReads.Pure := by
  intro l l1 _ hw _ _
  have hb : ∀ c ∈ l, 0 ≤ c ∧ c ≤ 255 := fun c hc => by
    have := hw c hc
    simpa [Lit.wf, IntKind.min, IntKind.max, IntKind.signed, IntKind.bits] using this
  unfold polyglotlaw01_OctetReads.f
  by_cases h3 : (l.length : Int) > 300
  · exact ⟨1, by rw [if_pos h3]; rfl⟩
  · by_cases h4 : (l1.length : Int) > 40
    · exact ⟨1, by rw [if_neg h3, show decide ((l1.length : Int) > 40) = true from decide_eq_true h4]; rfl⟩
    · refine ⟨6 * l1.length + 11, ?_⟩
      rw [if_neg h3, show decide ((l1.length : Int) > 40) = false from decide_eq_false h4, polyglotlaw01_OctetReads.j0, if_neg (by simp)]
      simp only [octet_Read.f]
      rw [if_pos (by omega)]
      exact loop l l1 (by omega) (by omega) hb l1.length 0 0 false (by omega) (by omega)

end Go.Proofs.Ytdamjkfggmmmeaa.Pure
