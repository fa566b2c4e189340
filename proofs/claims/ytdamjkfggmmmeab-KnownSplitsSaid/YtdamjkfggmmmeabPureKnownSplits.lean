/- Plain laws of items, and what they come to. -/
import Derived.Test.YtdamjkfggmmmeabPKsx3
import Derived.Test.YtdamjkfggmmmeabPKsx2
import Derived.Test.YtdamjkfggmmmeabPKsx1
namespace Go.Proofs.Ytdamjkfggmmmeab.Pure
open Go.RowKit Go.Proofs.Ytdamjkfggmmmeab.PKs Go.Proofs.YtdamjkfggmmmeabW.PrintWords Go.Proofs.YtdamjkfggmmmeabW.PrintLast Go.Proofs.YtdamjkfggmmmeabW.PrintMore
set_option linter.unusedVariables false
set_option linter.unusedSimpArgs false
theorem w64 {n : Int} (h0 : -9223372036854775808 ≤ n) (h1 : n < 9223372036854775808) : wrap64 n = n := by unfold wrap64; omega
theorem leo_up {α : Type} {f : Nat → Option α} (h : ∀ k, LeO (f k) (f (k + 1))) {k : Nat} {r : α} (hk : f k = some r) : ∀ d, f (k + d) = some r
  | 0 => hk
  | d + 1 => h _ _ (leo_up h hk d)
def Ev (P : Nat → Prop) : Prop := ∃ n, ∀ k, n ≤ k → P k
theorem ev_of {α : Type} {f : Nat → Option α} (h : ∀ k, LeO (f k) (f (k + 1))) {r : α} (hk : ∃ k, f k = some r) : Ev fun k => f k = some r := by
  obtain ⟨n, hn⟩ := hk
  exact ⟨n, fun k hk => by have := leo_up h hn (k - n); rwa [show n + (k - n) = k by omega] at this⟩
theorem Ev.and {P Q : Nat → Prop} (h : Ev P) (k : Ev Q) : Ev fun n => P n ∧ Q n := by
  obtain ⟨a, ha⟩ := h
  obtain ⟨b, hb⟩ := k
  exact ⟨a + b, fun n hn => ⟨ha n (by omega), hb n (by omega)⟩⟩
theorem Ev.all {P : Nat → Prop} (h : ∀ k, P k) : Ev P := ⟨0, fun k _ => h k⟩
theorem rd_mid (done rest : List S40) (x : S40) : rd_T40 (done ++ x :: rest) (done.length : Int) = x := by simp [rd_T40]
theorem Few_run (l : List S40) (hl : l.length ≤ 40) (hm : ∀ x ∈ l, x.f1.length ≤ 140737488351232) : ∀ (rest done : List S40) (n : Int), l = done ++ rest → 0 ≤ n → n ≤ 5000 → ∃ k r, polyglotlaw06_Few.l0 k l n (done.length : Int) = some r ∧ (r = true → ∀ x ∈ rest, x.f1.length ≤ 5000)
  | [], done, n, he, _, _ => ⟨1, true, by rw [polyglotlaw06_Few.l0, if_neg (by rw [he]; simp)], by simp⟩
  | x :: rest, done, n, he, h0, h5 => by
    have hll : l.length = done.length + rest.length + 1 := by rw [he]; simp; omega
    have hx : rd_T40 l (done.length : Int) = x := by rw [he]; exact rd_mid _ _ _
    have hmx := hm x (by rw [he]; simp)
    by_cases h4 : n + x.f1.length ≤ 5000
    · obtain ⟨k, r, h1, h2⟩ := Few_run l hl hm rest (done ++ [x]) (n + x.f1.length) (by rw [he]; simp) (by omega) h4
      refine ⟨k + 1, r, ?_, fun hr y hy => ?_⟩
      · have v : wrap64 ((done.length : Int) + 1) = ((done ++ [x]).length : Int) := by rw [w64 (by omega) (by omega)]; simp
        rw [polyglotlaw06_Few.l0, if_pos (by omega), if_pos (by omega), hx, v, w64 (n := n + (x.f1.length : Int)) (by omega) (by omega), if_neg (by omega), h1]
      · rcases List.mem_cons.1 hy with rfl | hy
        · omega
        · exact h2 hr y hy
    · exact ⟨1, false, by rw [polyglotlaw06_Few.l0, if_pos (by omega), if_pos (by omega), hx, w64 (n := n + (x.f1.length : Int)) (by omega) (by omega), if_pos (by omega)], by simp⟩
theorem Few_is (l : List S40) (hm : ∀ x ∈ l, x.f1.length ≤ 140737488351232) : ∃ r, (Ev fun k => polyglotlaw06_Few.f k l = some r) ∧ (r = true → l.length ≤ 40 ∧ ∀ x ∈ l, x.f1.length ≤ 5000) := by
  by_cases hl : l.length ≤ 40
  · obtain ⟨k, r, h1, h2⟩ := Few_run l hl hm l [] 0 rfl (by omega) (by omega)
    exact ⟨r, ev_of (polyglotlaw06_Few.mono l) ⟨k, by unfold polyglotlaw06_Few.f; rw [if_neg (by omega)]; exact h1⟩, fun hr => ⟨hl, h2 hr⟩⟩
  · exact ⟨false, Ev.all fun k => by unfold polyglotlaw06_Few.f; rw [if_pos (by omega)], by simp⟩
theorem in_is (v t : Int) : polyglotlaw07_in.f v t = some (kn v t) := by
  unfold kn polyglotlaw07_in.f known_Knows.f
  repeat' split
  all_goals (first | rfl | (exfalso; omega) | (simp; omega) | simp_all)
theorem n32 : (nameS 32).toList = [122, 111, 110, 101] := by decide +kernel
theorem n33 : (nameS 33).toList = [108, 111, 97, 100] := by decide +kernel
theorem n34 : (nameS 34).toList = [98, 117, 105, 108, 100] := by decide +kernel
theorem nno (t : Int) (h : ¬ (32 ≤ t ∧ t ≤ 34)) : (nameS t).toList = [] := by
  unfold nameS
  rw [if_neg (by omega), if_neg (by omega), if_neg (by omega)]
  decide +kernel
theorem nyes (t : Int) (h : 32 ≤ t ∧ t ≤ 34) : ((nameS t).toList != ([] : List UInt8)) = true := by
  have : t = 32 ∨ t = 33 ∨ t = 34 := by omega
  rcases this with rfl | rfl | rfl
  · rw [n32]; rfl
  · rw [n33]; rfl
  · rw [n34]; rfl
theorem j3_ok (k : Nat) : polyglotlaw07_KnownSplits.j3 (k + 1) false = some true := by
  rw [polyglotlaw07_KnownSplits.j3, if_neg (by simp)]
  unfold known_Name.f polyglotlaw07_awake.f
  simp only [Option.bind_some]
  rw [if_pos n32, if_pos n33, if_pos n34]
theorem end_ok (v : Int) (l yes no : List S40) (s : ByteArray) (a b c : Int) (hc : (l.length : Int) ≤ c) (k : Nat) : polyglotlaw07_KnownSplits.l0 (k + 2) v l s yes no a b c = some true := by
  rw [polyglotlaw07_KnownSplits.l0, if_neg (by omega)]
  unfold known_Tag.f known_Name.f
  simp only [Option.bind_some]
  by_cases h1 : s.toList = [122, 111, 110, 101]
  · have e : tagS s.toList = (32, true) := by unfold tagS; rw [if_pos h1.symm]
    rw [if_pos h1, e, if_neg (by simp), if_pos rfl, if_pos (by rw [h1]; exact n32), j3_ok]
  · by_cases h2 : s.toList = [108, 111, 97, 100]
    · have e : tagS s.toList = (33, true) := by unfold tagS; rw [if_neg (fun h => h1 h.symm), if_pos h2.symm]
      rw [if_neg h1, if_pos h2, e, if_neg (by simp), if_pos rfl, if_pos (by rw [h2]; exact n33), j3_ok]
    · by_cases h3 : s.toList = [98, 117, 105, 108, 100]
      · have e : tagS s.toList = (34, true) := by unfold tagS; rw [if_neg (fun h => h1 h.symm), if_neg (fun h => h2 h.symm), if_pos h3.symm]
        rw [if_neg h1, if_neg h2, e, if_neg (by rw [h3]; decide), if_pos rfl, if_pos (by rw [h3]; exact n34), j3_ok]
      · have e : tagS s.toList = (0, false) := by unfold tagS; rw [if_neg (fun h => h1 h.symm), if_neg (fun h => h2 h.symm), if_neg (fun h => h3 h.symm)]
        have e2 : (s.toList == ([98, 117, 105, 108, 100] : List UInt8)) = false := beq_eq_false_iff_ne.mpr h3
        rw [if_neg h1, if_neg h2, e, if_neg (by rw [e2]; simp), if_neg (by simp)]
        exact j3_ok k
theorem flag (t : Int) : (if t ≥ 32 then (if t ≤ 34 then !((nameS t).toList != ([] : List UInt8)) else ((nameS t).toList != ([] : List UInt8))) else (((nameS t).toList != ([] : List UInt8)) != false)) = false := by
  by_cases h : 32 ≤ t ∧ t ≤ 34
  · rw [if_pos h.1, if_pos h.2, nyes t h]; rfl
  · rw [nno t h]
    split
    · rw [if_neg (by omega)]; rfl
    · rfl
theorem run (v : Int) (l : List S40) (s : ByteArray) (hl : l.length ≤ 40) : ∀ (rest done : List S40), l = done ++ rest →
    ∃ k, polyglotlaw07_KnownSplits.l0 k v l s (l.filter fun x => kn v x.f0) (l.filter fun x => !kn v x.f0) ((done.filter fun x => kn v x.f0).length : Int) ((done.filter fun x => !kn v x.f0).length : Int) (done.length : Int) = some true
  | [], done, he => ⟨2, end_ok v l _ _ s _ _ _ (by rw [he]; simp) 0⟩
  | x :: rest, done, he => by
    have hll : l.length = done.length + rest.length + 1 := by rw [he]; simp; omega
    have hx : rd_T40 l (done.length : Int) = x := by rw [he]; exact rd_mid _ _ _
    obtain ⟨k, hk⟩ := run v l s hl rest (done ++ [x]) (by rw [he]; simp)
    have f1 := List.length_filter_le (fun x : S40 => kn v x.f0) done
    have f2 := List.length_filter_le (fun x : S40 => !kn v x.f0) done
    have v3 : wrap64 ((done.length : Int) + 1) = ((done ++ [x]).length : Int) := by rw [w64 (by omega) (by omega)]; simp
    have hj : polyglotlaw07_KnownSplits.j2 (k + 1) v l s (l.filter fun x => kn v x.f0) (l.filter fun x => !kn v x.f0) ((done.filter fun x => kn v x.f0).length : Int) ((done.filter fun x => !kn v x.f0).length : Int) (done.length : Int) x.f0 false = some true := by
      rw [polyglotlaw07_KnownSplits.j2, if_neg (by simp), in_is]
      simp only [Option.bind_some]
      cases hp : kn v x.f0 with
      | true =>
        have hy : l.filter (fun x => kn v x.f0) = (done.filter fun x => kn v x.f0) ++ x :: (rest.filter fun x => kn v x.f0) := by rw [he, List.filter_append, List.filter_cons, if_pos hp]
        have hr : rd_T40 (l.filter fun x => kn v x.f0) ((done.filter fun x => kn v x.f0).length : Int) = x := by rw [hy]; exact rd_mid _ _ _
        have hlen : (done.filter fun x => kn v x.f0).length < (l.filter fun x => kn v x.f0).length := by rw [hy]; simp
        have e1 : ((done ++ [x]).filter fun x => kn v x.f0) = (done.filter fun x => kn v x.f0) ++ [x] := by rw [List.filter_append]; simp [hp]
        have e2 : ((done ++ [x]).filter fun x => !kn v x.f0) = (done.filter fun x => !kn v x.f0) := by rw [List.filter_append]; simp [hp]
        rw [e1, e2, List.length_append] at hk
        rw [if_pos rfl, if_neg (by omega), if_pos (by omega), if_pos (by omega), hr, if_pos rfl, if_pos (by omega), if_pos (by omega), hx, if_pos rfl, v3, w64 (by omega) (by omega), ← hk]
        simp
      | false =>
        have hy : l.filter (fun x => !kn v x.f0) = (done.filter fun x => !kn v x.f0) ++ x :: (rest.filter fun x => !kn v x.f0) := by rw [he, List.filter_append, List.filter_cons, if_pos (by simp [hp])]
        have hr : rd_T40 (l.filter fun x => !kn v x.f0) ((done.filter fun x => !kn v x.f0).length : Int) = x := by rw [hy]; exact rd_mid _ _ _
        have hlen : (done.filter fun x => !kn v x.f0).length < (l.filter fun x => !kn v x.f0).length := by rw [hy]; simp
        have e1 : ((done ++ [x]).filter fun x => kn v x.f0) = (done.filter fun x => kn v x.f0) := by rw [List.filter_append]; simp [hp]
        have e2 : ((done ++ [x]).filter fun x => !kn v x.f0) = (done.filter fun x => !kn v x.f0) ++ [x] := by rw [List.filter_append]; simp [hp]
        rw [e1, e2, List.length_append] at hk
        rw [if_neg (by simp), if_neg (by omega), if_pos (by omega), if_pos (by omega), hr, if_pos rfl, if_pos (by omega), if_pos (by omega), hx, if_pos rfl, v3, w64 (by omega) (by omega), ← hk]
        simp
    refine ⟨k + 2, ?_⟩
    rw [polyglotlaw07_KnownSplits.l0, if_pos (by omega), if_pos (by omega), hx, kn_is, in_is]
    unfold known_Name.f
    simp only [Option.bind_some]
    rw [if_neg (by simp)]
    have hfl := flag x.f0
    by_cases h32 : x.f0 ≥ 32
    · rw [if_pos h32] at hfl ⊢
      by_cases h34 : x.f0 ≤ 34
      · rw [if_pos h34] at hfl ⊢
        rw [hfl]; exact hj
      · rw [if_neg h34] at hfl ⊢
        rw [hfl]; exact hj
    · rw [if_neg h32] at hfl ⊢
      rw [hfl]; exact hj
theorem halves (l : List S40) (p : S40 → Bool) : (l.filter p).length + (l.filter fun x => !p x).length = l.length := by
  induction l with
  | nil => rfl
  | cons x l ih =>
    cases hp : p x <;> simp [List.filter_cons, hp] <;> omega
theorem start (k : Nat) (v : Int) (l yes no : List S40) (s : ByteArray) (h1 : known_Known.f v l = some yes) (h2 : known_Unknown.f v l = some no) (hw : wrap64 ((yes.length : Int) + (no.length : Int)) = (l.length : Int)) (h : polyglotlaw07_KnownSplits.l0 k v l s yes no 0 0 0 = some true) : polyglotlaw07_KnownSplits.j0 (k + 1) v l s false = some true := by
  rw [polyglotlaw07_KnownSplits.j0, if_neg Bool.false_ne_true, h1, Option.bind_some, h2, Option.bind_some, if_pos hw]
  exact h
theorem KnownSplits (v : Int) (l : List S40) (s : ByteArray) (_ : (Lit.int .i64 v).wf = true) (_ : l.length ≤ maxLen) (_ : ∀ v ∈ l, ((Lit.int .i64 v.f0).wf = true ∧ (v.f1.length ≤ maxLen ∧ ∀ v4 ∈ v.f1, (Lit.int .u8 v4).wf = true))) (_ : s.size ≤ 140737488351232) (hz : ∀ v ∈ l, v.f1.length ≤ 140737488351232) : ∃ k, polyglotlaw07_KnownSplits.f k v l s = some true := by
  obtain ⟨r, hr, hr2⟩ := Few_is l hz
  obtain ⟨n, hn⟩ := hr
  have ht : ∀ k, polyglotlaw07_KnownSplits.j0 (k + 1) v l s true = some true := fun k => by
    rw [polyglotlaw07_KnownSplits.j0, if_pos rfl]; rfl
  cases r with
  | false => exact ⟨n + 1, by unfold polyglotlaw07_KnownSplits.f; rw [hn (n + 1) (by omega)]; simp only [Option.bind_some, Bool.false_eq_true, if_false]; exact ht n⟩
  | true =>
    obtain ⟨h40, h5⟩ := hr2 rfl
    by_cases h20 : (s.size : Int) > 20
    · exact ⟨n + 1, by unfold polyglotlaw07_KnownSplits.f; rw [hn (n + 1) (by omega)]; simp only [Option.bind_some, if_true]; rw [decide_eq_true h20]; exact ht n⟩
    · have hgood : goodL l = true := by
        unfold goodL
        simp
        exact ⟨by omega, fun x hx => by have := h5 x hx; omega⟩
      have hl0 := ev_of (fun k => (polyglotlaw07_KnownSplits.mono_l k).2.1 v l s _ _ _ _ _) (run v l s h40 l [] rfl)
      obtain ⟨m, hm⟩ := hl0
      refine ⟨n + m + 1, ?_⟩
      unfold polyglotlaw07_KnownSplits.f
      rw [hn (n + m + 1) (by omega)]
      simp only [Option.bind_some, if_true]
      rw [decide_eq_false h20]
      have hh := halves l (fun x => kn v x.f0)
      refine start (n + m) v l _ _ s (by unfold known_Known.f; rw [if_pos hgood]) (by unfold known_Unknown.f; rw [if_pos hgood]) ?_ (hm (n + m) (by omega))
      rw [w64 (by omega) (by omega)]
      omega
end Go.Proofs.Ytdamjkfggmmmeab.Pure
