/- VarintGets: what is read off the front of any bytes, or why nothing is, is what the statement says. No condition beyond the statement's own. -/
import Derived.Test.YtdamjkfggmmmeaaVV
namespace Go.Proofs.Ytdamjkfggmmmeaa.Pure
open Go.RowKit Go.Proofs.Ytdamjkfggmmmeaa.PVar Go.Proofs.YtdamjkfggmmmeaaW.PrintWords Go.Proofs.YtdamjkfggmmmeaaW.PrintLast Go.Proofs.YtdamjkfggmmmeaaW.PrintMore Go.Proofs.Ytdamjkfggmmmeaa.VV

theorem can_val_lt (b : Int) (hb : 0 ≤ b) (m : List Int) : ∀ z, VV.Can z m → (∀ c, m.getLast? = some c → c ≤ b) → val m < (b + 1) * 128 ^ (m.length - 1) := by
  induction m with
  | nil => intro z h; exact h.elim
  | cons c m ih =>
    intro z h hl
    cases m with
    | nil =>
      obtain ⟨h0, h1, _⟩ := can_one h
      have := hl c rfl
      simp [val]; omega
    | cons d m =>
      obtain ⟨_, _, hc⟩ := can_cons h
      have := ih false hc (fun e he => hl e (by simpa using he))
      rw [show val (c :: d :: m) = c % 128 + 128 * val (d :: m) from rfl]
      rw [show (c :: d :: m).length - 1 = (d :: m).length - 1 + 1 by simp, Int.pow_succ, ← Int.mul_assoc]
      omega
/-- How many bytes go on, of the first ten. -/
def goOn : Nat → List Int → Nat
  | 0, _ => 0
  | _, [] => 0
  | n + 1, c :: l => if c ≥ 128 then goOn n l + 1 else 0
theorem goOn_le (n : Nat) : ∀ l, goOn n l ≤ n ∧ goOn n l ≤ l.length := by
  induction n with
  | zero => intro l; simp [goOn]
  | succ n ih =>
    intro l
    cases l with
    | nil => simp [goOn]
    | cons c l =>
      have := ih l
      simp only [goOn]; split <;> simp <;> omega
theorem rd_zero (c : Int) (l : List Int) : rd (c :: l) 0 = c := by simp [rd]
theorem rd_succ (c : Int) (l : List Int) (j : Nat) : rd (c :: l) ((j + 1 : Nat) : Int) = rd l (j : Int) := by simp [rd]
theorem goOn_at (n : Nat) : ∀ l (j : Nat), j < goOn n l → rd l (j : Int) ≥ 128 := by
  induction n with
  | zero => intro l j h; simp [goOn] at h
  | succ n ih =>
    intro l j h
    cases l with
    | nil => simp [goOn] at h
    | cons c l =>
      simp only [goOn] at h
      split at h
      · cases j with
        | zero => rw [show ((0 : Nat) : Int) = 0 by rfl, rd_zero]; assumption
        | succ j => rw [rd_succ]; exact ih l j (by omega)
      · omega
theorem goOn_stop (n : Nat) : ∀ l, goOn n l < n → goOn n l < l.length → rd l (goOn n l : Int) < 128 := by
  induction n with
  | zero => intro l h; omega
  | succ n ih =>
    intro l h h2
    cases l with
    | nil => simp at h2
    | cons c l =>
      simp only [goOn] at h h2 ⊢
      split
      · rename_i hc
        rw [if_pos hc] at h h2
        rw [rd_succ]; exact ih l (by omega) (by simp at h2; omega)
      · rw [show ((0 : Nat) : Int) = 0 by rfl, rd_zero]; omega
theorem law_loop (l : List Int) (v n e : Int) (d : Nat) : ∀ (i k : Nat), i + d = goOn 10 l → polyglotlaw02_VarintGets.l0 (k + d + 1) l v n e (i : Int) = polyglotlaw02_VarintGets.j1 k l v n e (goOn 10 l : Int) := by
  have hb := goOn_le 10 l
  induction d with
  | zero =>
    intro i k hi
    have hi : i = goOn 10 l := by omega
    simp only [polyglotlaw02_VarintGets.l0]
    rw [← hi]
    by_cases h1 : (i : Int) < (l.length : Int)
    · rw [if_pos h1]
      by_cases h2 : (i : Int) < 10
      · have := goOn_stop 10 l (by omega) (by omega)
        rw [← hi] at this
        rw [if_pos h2, if_pos (by omega), if_neg (by omega)]
      · rw [if_neg h2]
    · rw [if_neg h1]
  | succ d ih =>
    intro i k hi
    have := goOn_at 10 l i (by omega)
    rw [show k + (d + 1) + 1 = (k + d + 1) + 1 by omega]
    simp only [polyglotlaw02_VarintGets.l0]
    rw [if_pos (by omega), if_pos (by omega), if_pos (by omega), if_pos this, wrap64_in (by omega) (by omega)]
    exact ih (i + 1) k (by omega)
theorem take_drop (l : List Int) (i : Nat) (h : i < l.length) : l.drop i = rd l (i : Int) :: l.drop (i + 1) := by
  rw [List.drop_eq_getElem_cons h]; congr 1; simp [rd, List.getD_eq_getElem?_getD, List.getElem?_eq_getElem h]
theorem take_snoc (l : List Int) (i : Nat) (h : i < l.length) : l.take (i + 1) = l.take i ++ [rd l (i : Int)] := by
  rw [List.take_add_one]; congr 1; simp [rd, List.getD_eq_getElem?_getD, List.getElem?_eq_getElem h]
theorem val_snoc (m : List Int) : ∀ c, val (m ++ [c]) = val m + c % 128 * 128 ^ m.length := by
  induction m with
  | nil => intro c; simp [val]
  | cons d m ih =>
    intro c
    show d % 128 + 128 * val (m ++ [c]) = d % 128 + 128 * val m + c % 128 * 128 ^ (m.length + 1)
    rw [ih, Int.mul_add, Int.pow_succ, ← Int.add_assoc]
    congr 1
    rw [Int.mul_comm (128 ^ m.length) 128, ← Int.mul_assoc, ← Int.mul_assoc, Int.mul_comm 128]
theorem val_bd (m : List Int) : 0 ≤ val m ∧ val m < 128 ^ m.length := by
  induction m with
  | nil => simp [val]
  | cons d m ih =>
    show 0 ≤ d % 128 + 128 * val m ∧ d % 128 + 128 * val m < 128 ^ (m.length + 1)
    rw [Int.pow_succ]; omega
theorem get_pre (l : List Int) (hb : ∀ x ∈ l, 0 ≤ x ∧ x < 256) (i : Nat) : ∀ k, i ≤ 9 → i ≤ goOn 10 l → varint_Get.l0 (2 * i + k) l 0 0 2 0 = varint_Get.l0 k l (val (l.take i)) 0 2 (i : Int) := by
  have hg := goOn_le 10 l
  induction i with
  | zero => intro k _ _; simp [val]
  | succ i ih =>
    intro k h1 h2
    have hl : i < l.length := by omega
    have hr := goOn_at 10 l i (by omega)
    have hx : rd l (i : Int) < 256 := by
      have hm : rd l (i : Int) ∈ l := by
        have : l.drop i = rd l (i : Int) :: l.drop (i + 1) := take_drop l i hl
        exact List.mem_of_mem_drop (i := i) (by rw [this]; simp)
      exact (hb _ hm).2
    have hv := val_bd (l.take i)
    have hlen : (l.take i).length = i := by rw [List.length_take]; omega
    rw [show 2 * (i + 1) + k = 2 * i + (k + 2) by omega, ih (k + 2) (by omega) (by omega)]
    rw [get_go k l (l.drop (i + 1)) (rd l (i : Int)) _ i (take_drop l i hl) (by omega) hv.1 (by rw [hlen] at hv; exact hv.2) hr hx (by omega)]
    rw [take_snoc l i hl, val_snoc, hlen]
theorem pow_fin : ∀ E : Fin 9, (128 : Int) ^ (E.val + 1) ≤ 128 ^ 9 := by decide
theorem VarintGets : polyglotlaw02_VarintGets.Pure := by
  intro l _ hl hw
  have hb : ∀ x ∈ l, 0 ≤ x ∧ x < 256 := fun x hx => VV.wf_u8 (hw x hx)
  by_cases h : (l.length : Int) > 40
  · refine ⟨20, ?_⟩
    unfold polyglotlaw02_VarintGets.f
    rw [if_pos h, VV.awake_k]; rfl
  · have hg := goOn_le 10 l
    generalize hE : goOn 10 l = E at hg
    -- what Get answers
    have mem : ∀ i : Nat, i < l.length → 0 ≤ rd l (i : Int) ∧ rd l (i : Int) < 256 := fun i hi =>
      hb _ (List.mem_of_mem_drop (i := i) (by rw [take_drop l i hi]; simp))
    refine ⟨25 + E + 1, ?_⟩
    unfold polyglotlaw02_VarintGets.f
    rw [if_neg h]
    have fin : ∀ v n e, varint_Get.f (25 + E + 1) l = some (v, n, e) → polyglotlaw02_VarintGets.j1 25 l v n e (E : Int) = some true →
        ((varint_Get.f (25 + E + 1) l).bind fun bt142 => (polyglotlaw02_VarintGets.l0 (25 + E + 1) l bt142.1 bt142.2.1 bt142.2.2 0)) = some true := by
      intro v n e h1 h2
      rw [h1]; simp only [Option.bind_some]
      have := law_loop l v n e E 0 25 (by omega)
      rw [show ((0 : Nat) : Int) = 0 by rfl, hE] at this
      rw [this]; exact h2
    by_cases hA : E = 10
    · -- ten bytes that go on
      have h9 := goOn_at 10 l 9 (by omega)
      have hx := mem 9 (by omega)
      have h9' : rd l 9 ≥ 128 := h9
      refine fin 0 0 4 ?_ ?_
      · have := get_pre l hb 9 (25 + E + 1 - 18) (by omega) (by omega)
        unfold varint_Get.f
        rw [show 25 + E + 1 = 2 * 9 + (25 + E + 1 - 18) by omega, this, show 25 + E + 1 - 18 = 16 + 2 by omega]
        simp only [varint_Get.l0, varint_Get.j1]
        rw [if_pos (by decide), if_neg (by omega), if_pos (by decide), if_pos (by omega), if_pos (by decide), if_pos (by simp; omega)]
      · simp only [polyglotlaw02_VarintGets.j1, polyglotlaw02_VarintGets.j2]
        rw [if_pos (by omega), if_pos trivial, if_pos trivial, if_pos trivial, if_pos trivial, awake_ge 23 (by decide)]; rfl
    · by_cases hB : l.length ≤ E
      · refine fin 0 0 2 ?_ ?_
        · have := get_pre l hb E (25 + E + 1 - 2 * E) (by omega) (by omega)
          unfold varint_Get.f
          rw [show 25 + E + 1 = 2 * E + (25 + E + 1 - 2 * E) by omega, this]
          obtain ⟨q, hq⟩ : ∃ q, 25 + E + 1 - 2 * E = q + 1 := ⟨25 + E - 2 * E, by omega⟩
          rw [hq]
          simp only [varint_Get.l0]
          rw [if_pos (by omega), if_pos (by omega), if_neg (by decide)]
        · simp only [polyglotlaw02_VarintGets.j1, polyglotlaw02_VarintGets.j2]
          rw [if_neg (by omega)]
          have e2 : (if (false : Bool) = true then (if (0 : Int) = 0 then (if (0 : Int) = 0 then (if (2 : Int) = 4 then ((polyglotlaw02_awake.f 23).bind fun t147 => (some t147)) else (some false)) else (some false)) else (some false)) else (if (E : Int) ≥ (l.length : Int) then (if (0 : Int) = 0 then (if (0 : Int) = 0 then (if (2 : Int) = 2 then ((polyglotlaw02_awake.f 23).bind fun t148 => (some t148)) else (some false)) else (some false)) else (some false)) else (if (E : Int) > 0 then (if 0 ≤ (E : Int) then (if (E : Int) < (l.length : Int) then (polyglotlaw02_VarintGets.j3 23 l 0 0 2 E ((rd l E) == 0)) else (none)) else (none)) else (polyglotlaw02_VarintGets.j3 23 l 0 0 2 E false)))) = some true := by
            rw [if_neg (by simp), if_pos (by omega), if_pos rfl, if_pos rfl, if_pos rfl, awake_ge 23 (by decide)]; rfl
          by_cases e9 : (E : Int) = 9
          · rw [if_pos e9, if_neg (by omega)]; exact e2
          · rw [if_neg e9]; exact e2
      · have hlt : E < l.length := by omega
        have hc := mem E hlt
        have hs := goOn_stop 10 l (by omega) (by omega)
        rw [hE] at hs
        by_cases hC : E = 9 ∧ rd l (E : Int) > 1
        · refine fin 0 0 4 ?_ ?_
          · have := get_pre l hb 9 (25 + E + 1 - 18) (by omega) (by omega)
            unfold varint_Get.f
            rw [show 25 + E + 1 = 2 * 9 + (25 + E + 1 - 18) by omega, this, show 25 + E + 1 - 18 = 15 + 2 by omega]
            simp only [varint_Get.l0, varint_Get.j1]
            have hc9 : rd l ((9 : Nat) : Int) > 1 := by have := hC.2; rw [hC.1] at this; exact this
            rw [if_pos (by decide), if_neg (by omega), if_pos (by decide), if_pos (by omega), if_pos (by decide), if_pos (by simpa using hc9)]
          · simp only [polyglotlaw02_VarintGets.j1, polyglotlaw02_VarintGets.j2]
            rw [if_neg (by omega), if_pos (by omega), if_pos (by omega), if_pos (by omega), if_pos (by simpa using hC.2), if_pos trivial, if_pos trivial, if_pos trivial, awake_ge 23 (by decide)]; rfl
        · -- the law's way to j3
          have way : ∀ v n e, (polyglotlaw02_VarintGets.j3 23 l v n e E (decide (0 < E) && (rd l E == 0))) = some true → polyglotlaw02_VarintGets.j1 25 l v n e (E : Int) = some true := by
            intro v n e h3
            have e2 : polyglotlaw02_VarintGets.j2 24 l v n e (E : Int) false = some true := by
              simp only [polyglotlaw02_VarintGets.j2]
              rw [if_neg (by simp), if_neg (by omega)]
              by_cases p : (E : Int) > 0
              · rw [if_pos p, if_pos (by omega), if_pos (by omega)]
                rw [show decide (0 < E) = true by simp; omega, Bool.true_and] at h3; exact h3
              · rw [if_neg p]
                rw [show decide (0 < E) = false by simp; omega, Bool.false_and] at h3; exact h3
            simp only [polyglotlaw02_VarintGets.j1]
            rw [if_neg (by omega)]
            by_cases e9 : (E : Int) = 9
            · rw [if_pos e9, if_pos (by omega), if_pos (by omega), show decide (rd l (E : Int) > 1) = false by simp; omega]; exact e2
            · rw [if_neg e9]; exact e2
          by_cases hz : 0 < E ∧ rd l (E : Int) = 0
          · refine fin 0 0 4 ?_ (way 0 0 4 ?_)
            · have := get_pre l hb E (25 + E + 1 - 2 * E) (by omega) (by omega)
              unfold varint_Get.f
              rw [show 25 + E + 1 = 2 * E + (25 + E + 1 - 2 * E) by omega, this]
              obtain ⟨q, hq⟩ : ∃ q, 25 + E + 1 - 2 * E = q + 2 := ⟨24 + E - 2 * E, by omega⟩
              have hv := val_bd (l.take E)
              have hlen : (l.take E).length = E := by rw [List.length_take]; omega
              rw [hlen] at hv
              rw [hq, get_end q l _ (rd l (E : Int)) _ E (take_drop l E hlt) (by omega) hv.1 hv.2 hc.1 hs (fun h => by omega), if_pos ⟨hz.2, hz.1⟩]
            · simp only [polyglotlaw02_VarintGets.j3]
              rw [if_pos (by simp [hz]), if_pos trivial, if_pos trivial, if_pos trivial, awake_ge 22 (by decide)]; rfl
          · -- a number is read
            have hlen : (l.take (E + 1)).length = E + 1 := by rw [List.length_take]; omega
            have hcan : VV.Can true (l.take (E + 1)) := by
              rw [take_snoc l E hlt]
              refine can_append _ _ _ ?_ hc.1 hs ?_
              · intro x hx
                obtain ⟨j, hj, rfl⟩ := List.mem_iff_getElem.1 hx
                rw [List.length_take] at hj
                have h128 := goOn_at 10 l j (by omega)
                have hm := mem j (by omega)
                have he : (l.take E)[j]'(by rw [List.length_take]; omega) = rd l (j : Int) := by
                  simp [rd, List.getD_eq_getElem?_getD, List.getElem?_eq_getElem (show j < l.length by omega)]
                rw [he]; omega
              · by_cases p : E = 0
                · left; subst p; simp
                · right; intro q; exact hz ⟨by omega, q⟩
            have hlast : (l.take (E + 1)).length = 10 → ∀ c, (l.take (E + 1)).getLast? = some c → c ≤ 1 := by
              intro h10 c hcl
              rw [take_snoc l E hlt] at hcl
              simp at hcl
              omega
            have hg2 := get_ok l (l.take (E + 1)) (l.drop (E + 1)) (List.take_append_drop _ _).symm hcan (by omega) hlast (25 + E + 1) (by omega)
            obtain ⟨f1, f2, _⟩ := can_form _ true 10 hcan (by omega)
            have hvlt : val (l.take (E + 1)) < 18446744073709551616 := by
              by_cases h10 : E = 9
              · have := can_val_lt 1 (by decide) _ true hcan (hlast (by omega))
                rw [hlen, h10] at this
                rw [h10]
                simpa using this
              · have := (val_bd (l.take (E + 1))).2
                rw [hlen] at this
                have hp : (128 : Int) ^ (E + 1) ≤ 128 ^ 9 := pow_fin ⟨E, by omega⟩
                have h9 : (128 : Int) ^ 9 < 18446744073709551616 := by decide
                omega
            rw [hlen] at hg2
            refine fin _ _ _ hg2 (way _ _ _ ?_)
            simp only [polyglotlaw02_VarintGets.j3]
            have hb2 : (decide (0 < E) && (rd l (E : Int) == 0)) = false := by
              cases h1 : decide (0 < E) <;> simp
              intro q; exact hz ⟨by simpa using h1, q⟩
            rw [hb2, if_neg (by simp), if_pos trivial, if_pos (by rw [wrap64_in (by omega) (by omega)]; omega), form_eq _ f2 hvlt 22 (by decide)]
            simp only [Option.bind_some]
            rw [if_pos (by omega), if_pos (by omega), f1, if_pos (by simp), awake_ge 22 (by decide)]; rfl
end Go.Proofs.Ytdamjkfggmmmeaa.Pure
