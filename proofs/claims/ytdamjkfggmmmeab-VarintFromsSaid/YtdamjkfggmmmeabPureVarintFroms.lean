/- VarintFroms: a reader gives the number whose form comes next, just if varint.Get gives it of all bytes. -/
import Derived.Test.YtdamjkfggmmmeabVV
namespace Go.Proofs.Ytdamjkfggmmmeab.Pure
open Go Go.RowKit Go.Proofs.Ytdamjkfggmmmeab.PVf Go.Proofs.YtdamjkfggmmmeabW.PrintWords Go.Proofs.YtdamjkfggmmmeabW.PrintLast Go.Proofs.YtdamjkfggmmmeabW.PrintMore Go.Proofs.Ytdamjkfggmmmeab.VV
set_option linter.unusedVariables false
set_option linter.unusedSimpArgs false
namespace VF
theorem rd_take (l : List Int) (i j : Nat) (hi : i < j) : rd (l.take j) (i : Int) = rd l (i : Int) := by
  simp [rd, List.getD_eq_getElem?_getD, List.getElem?_take, hi]
/-- What Get does behind place i is told by the bytes up to the first that ends. -/
theorem get_pref (l : List Int) (j : Nat) (hj : j ≤ l.length) (h10 : j ≤ 10) (hstop : j = 10 ∨ rd l ((j - 1 : Nat) : Int) < 128) (h9 : j = 10 → rd l ((9 : Nat) : Int) > 1 ∨ rd l ((9 : Nat) : Int) < 128) (k : Nat) : ∀ (i : Nat) (v n e : Int), i < j → varint_Get.l0 k l v n e (i : Int) = varint_Get.l0 k (l.take j) v n e (i : Int) := by
  induction k using Nat.strongRecOn with
  | _ k ih =>
    intro i v n e hi
    cases k with
    | zero => rfl
    | succ k =>
      have hlen : (l.take j).length = j := by simp; omega
      have hrd := rd_take l i j hi
      have hw : wrap64 ((i : Int) + 1) = ((i + 1 : Nat) : Int) := by rw [wrap64_in (by omega) (by omega)]; omega
      have hj1 : ∀ b : Bool, (b = true ∨ i + 1 < j ∨ rd l (i : Int) < 128) → varint_Get.j1 k l v n e (i : Int) (rd l (i : Int)) (i : Int) b = varint_Get.j1 k (l.take j) v n e (i : Int) (rd l (i : Int)) (i : Int) b := by
        intro b hb
        cases k with
        | zero => rfl
        | succ k =>
          rw [varint_Get.j1, varint_Get.j1, hw]
          rcases hb with hb | hb | hb
          · rw [if_pos hb, if_pos hb]
          · rw [ih k (by omega) (i + 1) _ n e hb]
          · rw [if_pos hb, if_pos hb]
      rw [varint_Get.l0, varint_Get.l0, hlen, hrd]
      rw [if_pos (show (i : Int) < 10 by omega), if_pos (show (i : Int) < 10 by omega), if_neg (show ¬ (i : Int) ≥ (l.length : Int) by omega), if_neg (show ¬ (i : Int) ≥ (j : Int) by omega), if_pos (show (0 : Int) ≤ (i : Int) by omega), if_pos (show (0 : Int) ≤ (i : Int) by omega), if_pos (show (i : Int) < (l.length : Int) by omega), if_pos (show (i : Int) < (j : Int) by omega)]
      by_cases e9 : (i : Int) = 9
      · rw [if_pos e9, if_pos e9]
        have hi9 : i = 9 := by omega
        subst hi9
        refine hj1 _ ?_
        by_cases hc : rd l ((9 : Nat) : Int) < 128
        · exact .inr (.inr hc)
        · exact .inl (decide_eq_true (by omega))
      · rw [if_neg e9, if_neg e9]
        refine hj1 _ ?_
        by_cases hc : i + 1 < j
        · exact .inr (.inl hc)
        · rcases hstop with hs | hs
          · omega
          · have : j - 1 = i := by omega
            rw [this] at hs; exact .inr (.inr hs)
/-- What Get answers. -/
theorem get_ans (l : List Int) (hb : ∀ x ∈ l, 0 ≤ x ∧ x < 256) : ∃ v n e, (∀ k, 60 ≤ k → varint_Get.f k l = some (v, n, e)) ∧ (l.length ≤ goOn 10 l → goOn 10 l < 10 → e ≠ 0) ∧ (e = 0 → n = (goOn 10 l : Int) + 1 ∧ goOn 10 l < 10 ∧ goOn 10 l < l.length ∧ 0 ≤ v ∧ v < 18446744073709551616) := by
  have hg := goOn_le 10 l
  have hs := goOn_stop 10 l
  have hat := goOn_at 10 l
  generalize hE : goOn 10 l = E at hg hs hat
  have mem : ∀ i : Nat, i < l.length → 0 ≤ rd l (i : Int) ∧ rd l (i : Int) < 256 := fun i hi =>
    hb _ (List.mem_of_mem_drop (i := i) (by rw [take_drop l i hi]; simp))
  have up : ∀ v n e, varint_Get.f 60 l = some (v, n, e) → ∀ k, 60 ≤ k → varint_Get.f k l = some (v, n, e) := fun v n e h k hk => at_rounds (varint_Get.mono l) hk h
  have pre : ∀ i, i ≤ 9 → i ≤ E → varint_Get.f 60 l = varint_Get.l0 (60 - 2 * i) l (val (l.take i)) 0 2 (i : Int) := fun i h1 h2 => by
    have := get_pre l hb i (60 - 2 * i) h1 (by omega)
    unfold varint_Get.f
    rw [← this]; congr 1; omega
  by_cases hA : E = 10
  · have hx := mem 9 (by omega)
    have h9 : rd l ((9 : Nat) : Int) ≥ 128 := hat 9 (by omega)
    refine ⟨0, 0, 4, up _ _ _ ?_, fun _ h => by omega, fun h => by omega⟩
    rw [pre 9 (by omega) (by omega), show 60 - 2 * 9 = 40 + 2 by rfl]
    simp only [varint_Get.l0, varint_Get.j1]
    rw [if_pos (by decide), if_neg (by omega), if_pos (by decide), if_pos (by omega), if_pos (by decide), if_pos (by simp; simp at h9; omega)]
  · by_cases hB : l.length ≤ E
    · refine ⟨0, 0, 2, up _ _ _ ?_, fun _ _ => by omega, fun h => by omega⟩
      obtain ⟨q, hq⟩ : ∃ q, 60 - 2 * E = q + 1 := ⟨59 - 2 * E, by omega⟩
      rw [pre E (by omega) (by omega), hq]
      simp only [varint_Get.l0]
      rw [if_pos (by omega), if_pos (by omega), if_neg (by decide)]
    · have hlt : E < l.length := by omega
      have hc := mem E hlt
      have hs := hs (by omega) (by omega)
      obtain ⟨q, hq⟩ : ∃ q, 60 - 2 * E = q + 2 := ⟨58 - 2 * E, by omega⟩
      by_cases hC : E = 9 ∧ rd l (E : Int) > 1
      · refine ⟨0, 0, 4, up _ _ _ ?_, fun h => by omega, fun h => by omega⟩
        rw [pre E (by omega) (by omega), hq]
        simp only [varint_Get.l0, varint_Get.j1]
        rw [if_pos (by omega), if_neg (by omega), if_pos (by omega), if_pos (by omega), if_pos (by omega), if_pos (by simpa using hC.2)]
      · have hv := val_bd (l.take E)
        have hEl : (l.take E).length = E := by simp; omega
        rw [hEl] at hv
        have hdr : l.drop E = rd l (E : Int) :: l.drop (E + 1) := take_drop l E hlt
        have hget := fun q => get_end q l _ (rd l (E : Int)) _ E hdr (by omega) hv.1 hv.2 hc.1 hs (fun h => by omega)
        by_cases hz : 0 < E ∧ rd l (E : Int) = 0
        · refine ⟨0, 0, 4, up _ _ _ ?_, fun h => by omega, fun h => by omega⟩
          rw [pre E (by omega) (by omega), hq, hget, if_pos ⟨hz.2, hz.1⟩]
        · refine ⟨val (l.take E) + rd l (E : Int) * 128 ^ E, (E : Int) + 1, 0, up _ _ _ ?_, fun h => by omega, fun _ => ⟨rfl, by omega, hlt, ?_, ?_⟩⟩
          · rw [pre E (by omega) (by omega), hq, hget, if_neg (fun h => hz ⟨h.2, h.1⟩)]
          · have := Int.mul_nonneg hc.1 (Int.le_of_lt (VV.pow_pos E)); omega
          · by_cases h10 : E = 9
            · have h1 : rd l (E : Int) ≤ 1 := by omega
              have h2 : rd l (E : Int) * 128 ^ E ≤ 1 * 128 ^ E := Int.mul_le_mul_of_nonneg_right h1 (Int.le_of_lt (VV.pow_pos E))
              have h3 : (128 : Int) ^ E = 9223372036854775808 := by rw [h10]; decide
              omega
            · have h1 : rd l (E : Int) * 128 ^ E ≤ 127 * 128 ^ E := Int.mul_le_mul_of_nonneg_right (by omega) (Int.le_of_lt (VV.pow_pos E))
              have hp : (128 : Int) ^ (E + 1) ≤ 128 ^ 9 := pow_fin ⟨E, by omega⟩
              rw [Int.pow_succ] at hp
              have h9 : (128 : Int) ^ 9 < 18446744073709551616 := by decide
              omega
theorem Num1 (l : List Int) (i : Nat) (hi : i < l.length) (hb : ∀ x ∈ l, 0 ≤ x ∧ x < 256) : octet_Reader_Num.f ⟨l, i, false⟩ 1 = some (rd l (i : Int), ⟨l, i + 1, false⟩) := by
  have hs : Octet.stepF ⟨l, i, false⟩ (Octet.numN 1) = (some [rd l (i : Int)], ⟨l, i + 1, false⟩) := by
    have hn : Octet.numN 1 = 1 := by decide
    unfold Octet.stepF
    rw [hn, if_neg (by simp), if_neg (by simp; omega)]
    simp only [take_drop l i hi]
    rfl
  have hm : 0 ≤ rd l (i : Int) ∧ rd l (i : Int) < 256 := hb _ (List.mem_of_mem_drop (i := i) (by rw [take_drop l i hi]; simp))
  unfold octet_Reader_Num.f
  rw [hs]
  simp [Octet.num]; omega
theorem Num1_out (l : List Int) : octet_Reader_Num.f ⟨l, l.length, false⟩ 1 = some (0, ⟨l, l.length, true⟩) := by
  have hs : Octet.stepF ⟨l, l.length, false⟩ (Octet.numN 1) = (none, ⟨l, l.length, true⟩) := by
    have hn : Octet.numN 1 = 1 := by decide
    unfold Octet.stepF
    rw [hn, if_neg (by simp), if_pos (by simp)]
  unfold octet_Reader_Num.f
  rw [hs]
  simp [Octet.num]
/-- What From makes of Get's answer. -/
def fin_ (v e most : Int) (s : Octet.Rd) : Int × Bool × Octet.Rd := if e = 0 then (if most < 0 then (0, false, s) else if v > IntKind.u64.wrap most then (0, false, s) else (wrap64 v, true, s)) else (0, false, s)
theorem fin_eq (v n e most : Int) (s : Octet.Rd) : ((some (v, n, e)).bind fun bt121 : Int × Int × Int => (if bt121.2.2 = 0 then (if most < 0 then (some (0, false, s)) else (if bt121.1 > (IntKind.u64.wrap (most)) then (some (0, false, s)) else (some (wrap64 (bt121.1), true, s)))) else (some (0, false, s)))) = some (fin_ v e most s) := by
  simp only [Option.bind_some]
  unfold fin_
  repeat' split
  all_goals rfl
theorem from_loop (l : List Int) (hb : ∀ x ∈ l, 0 ≤ x ∧ x < 256) (most v n e : Int) (hget : ∀ k, 60 ≤ k → varint_Get.f k l = some (v, n, e)) (he : l.length ≤ goOn 10 l → goOn 10 l < 10 → e ≠ 0) (d : Nat) :
    ∀ (i k : Nat), i + d = goOn 10 l → 100 + d < k → ∃ s, varint_From.l0 k most (l.take i) ⟨l, i, false⟩ = some (fin_ v e most s) ∧ (e = 0 → s = ⟨l, goOn 10 l + 1, false⟩ ∨ goOn 10 l = 10) := by
  have hg := goOn_le 10 l
  have hstop := goOn_stop 10 l
  have hat := goOn_at 10 l
  have hg10 : ∀ k, goOn 10 l = 10 → varint_Get.f k l = varint_Get.f k (l.take 10) := fun k h => by
    have h9 : rd l ((9 : Nat) : Int) ≥ 128 := hat 9 (by omega)
    exact get_pref l 10 (by omega) (by omega) (.inl rfl) (fun _ => .inl (by omega)) k 0 0 0 2 (by omega)
  have hgE : ∀ k, goOn 10 l < 10 → goOn 10 l < l.length → varint_Get.f k l = varint_Get.f k (l.take (goOn 10 l + 1)) := fun k h h2 =>
    get_pref l (goOn 10 l + 1) (by omega) (by omega) (.inr (by simpa using hstop h h2)) (fun h => .inr (by have := hstop (by omega) h2; rw [show goOn 10 l = 9 by omega] at this; exact this)) k 0 0 0 2 (by omega)
  generalize goOn 10 l = E at *
  induction d with
  | zero =>
    intro i k hi hk
    obtain ⟨k, rfl⟩ : ∃ m, k = m + 1 := ⟨k - 1, by omega⟩
    obtain rfl : i = E := by omega
    have hlen : (l.take i).length = i := by simp; omega
    rw [varint_From.l0, hlen]
    by_cases h10 : i = 10
    · subst h10
      rw [if_neg (by omega), ← hg10 k rfl, hget k (by omega), fin_eq]
      exact ⟨_, rfl, fun _ => .inr rfl⟩
    · rw [if_pos (by omega)]
      by_cases hl : i = l.length
      · have h0 := he (by omega) (by omega)
        have hq : octet_Reader_Num.f ⟨l, i, false⟩ 1 = some (0, ⟨l, i, true⟩) := by rw [hl]; exact Num1_out l
        rw [hq]
        simp only [Option.bind_some, octet_Reader_Bad.f]
        rw [if_pos trivial]
        exact ⟨⟨l, i, true⟩, by unfold fin_; rw [if_neg h0], fun h => absurd h h0⟩
      · have hlt : i < l.length := by omega
        have hm : 0 ≤ rd l (i : Int) ∧ rd l (i : Int) < 256 := hb _ (List.mem_of_mem_drop (i := i) (by rw [take_drop l i hlt]; simp))
        rw [Num1 l i hlt hb]
        simp only [Option.bind_some, octet_Reader_Bad.f]
        rw [if_neg (by simp), if_pos (by omega), if_pos (hstop (by omega) hlt), show rd l (i : Int) % 256 = rd l (i : Int) by omega, ← take_snoc l i hlt, ← hgE k (by omega) hlt, hget k (by omega), fin_eq]
        exact ⟨_, rfl, fun _ => .inl rfl⟩
  | succ d ih =>
    intro i k hi hk
    obtain ⟨k, rfl⟩ : ∃ m, k = m + 1 := ⟨k - 1, by omega⟩
    have hlt : i < l.length := by omega
    have hlen : (l.take i).length = i := by simp; omega
    have hm : 0 ≤ rd l (i : Int) ∧ rd l (i : Int) < 256 := hb _ (List.mem_of_mem_drop (i := i) (by rw [take_drop l i hlt]; simp))
    have h128 := hat i (by omega)
    obtain ⟨s, h1, h2⟩ := ih (i + 1) k (by omega) (by omega)
    refine ⟨s, ?_, h2⟩
    rw [varint_From.l0, hlen, if_pos (by omega), Num1 l i hlt hb]
    simp only [Option.bind_some, octet_Reader_Bad.f]
    rw [if_neg (by simp), if_pos (by omega), if_neg (by omega), show rd l (i : Int) % 256 = rd l (i : Int) by omega, ← take_snoc l i hlt]
    exact h1
theorem awake_j (k : Nat) (h : 20 ≤ k) : ((polyglotlaw02_awake.f k).bind fun t => some t) = some true := by rw [awake_ge k h]; rfl
theorem wrap_most (m : Int) (h0 : 0 ≤ m) (h1 : m < 9223372036854775808) : IntKind.u64.wrap m = m := u64_wrap_id m h0 (by omega)
theorem from_eq (l : List Int) (hb : ∀ x ∈ l, 0 ≤ x ∧ x < 256) (most v n e : Int) (hget : ∀ k, 60 ≤ k → varint_Get.f k l = some (v, n, e)) (he : l.length ≤ goOn 10 l → goOn 10 l < 10 → e ≠ 0) (k : Nat) (hk : 120 ≤ k) :
    ∃ s, varint_From.f k ⟨l, 0, false⟩ most = some (fin_ v e most s) ∧ (e = 0 → s = ⟨l, goOn 10 l + 1, false⟩ ∨ goOn 10 l = 10) := from_loop l hb most v n e hget he (goOn 10 l) 0 k (by omega) (by have := (goOn_le 10 l).1; omega)
end VF
theorem VarintFroms : polyglotlaw02_VarintFroms.Pure := by
  intro l most _ _ hw hm
  have hb : ∀ x ∈ l, 0 ≤ x ∧ x < 256 := fun x hx => wf_u8 (hw x hx)
  obtain ⟨K, hK⟩ : ∃ K, 200 ≤ K := ⟨200, Nat.le_refl _⟩
  refine ⟨K, ?_⟩
  unfold polyglotlaw02_VarintFroms.f
  by_cases h40 : (l.length : Int) > 40
  · rw [if_pos h40]; exact VF.awake_j K (by omega)
  · rw [if_neg h40]
    have hg := goOn_le 10 l
    obtain ⟨v, n, e, hget, hne, hok⟩ := VF.get_ans l hb
    obtain ⟨s, hf, hs⟩ := VF.from_eq l hb most v n e hget hne K (by omega)
    have hr : octet_Read.f l = some ⟨l, 0, false⟩ := by unfold octet_Read.f; rw [if_pos (by omega)]
    rw [hr]
    simp only [Option.bind_some]
    rw [hf]
    simp only [Option.bind_some]
    rw [hget K (by omega)]
    simp only [Option.bind_some]
    have jT : polyglotlaw02_VarintFroms.j0 K l 0 false v n true s = some true := by
      obtain ⟨K, rfl⟩ : ∃ m, K = m + 1 := ⟨K - 1, by omega⟩
      rw [polyglotlaw02_VarintFroms.j0, if_pos rfl, if_pos rfl, if_neg (by simp)]
      exact VF.awake_j K (by omega)
    unfold VF.fin_
    by_cases h0 : e = 0
    · rw [if_pos h0, if_pos h0]
      by_cases hneg : most < 0
      · rw [if_pos hneg, if_pos hneg]; exact jT
      · rw [if_neg hneg, if_neg hneg]
        obtain ⟨hn, hE, hl, hv0, hv1⟩ := hok h0
        have hmb : most < 9223372036854775808 := by
          have := hm; simp [Lit.wf, IntKind.min, IntKind.max, IntKind.signed, IntKind.bits] at this; omega
        rw [VF.wrap_most most (by omega) hmb]
        by_cases hv : v > most
        · rw [if_pos hv, show decide (v > most) = true by simp; omega]; exact jT
        · rw [if_neg hv, show decide (v > most) = false by simp; omega]
          have hsv : s = ⟨l, goOn 10 l + 1, false⟩ := by
            rcases hs h0 with h | h
            · exact h
            · omega
          have hwv : wrap64 v = v := wrap64_in (by omega) (by omega)
          have huv : IntKind.u64.wrap v = v := u64_wrap_id v hv0 hv1
          have hwl : wrap64 ((l.length : Int) - n) = (l.length : Int) - n := wrap64_in (by omega) (by omega)
          simp only [hwv]
          obtain ⟨K, rfl⟩ : ∃ m, K = m + 1 := ⟨K - 1, by omega⟩
          have hL : octet_Reader_Left.f s = some ((l.length : Int) - n, s) := by
            unfold octet_Reader_Left.f; rw [hsv, hn]; simp
          rw [polyglotlaw02_VarintFroms.j0, if_neg (by simp), if_pos rfl, huv, hwl, if_pos rfl, if_pos hv0, hL]
          simp only [Option.bind_some]
          rw [if_pos trivial]
          exact VF.awake_j K (by omega)
    · rw [if_neg h0, if_neg h0]; exact jT
end Go.Proofs.Ytdamjkfggmmmeab.Pure
