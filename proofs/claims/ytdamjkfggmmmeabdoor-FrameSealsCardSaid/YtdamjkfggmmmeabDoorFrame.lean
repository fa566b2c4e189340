/- What the frame's functions (chapter 4) do to memory. -/
import Derived.Test.YtdamjkfggmmmeabDoorCrc
import Derived.Test.YtdamjkfggmmmeabDoorOctet
import Derived.Test.YtdamjkfggmmmeabDoorWRepsOne
namespace Go.Proofs.YtdamjkfggmmmeabDoor.Frame
open Go.RowKit Go.Proofs.YtdamjkfggmmmeabDoorW.PrintWords Go.Proofs.YtdamjkfggmmmeabDoorW.PrintLast Go.Proofs.YtdamjkfggmmmeabDoorW.PrintMore
open Octet (info5 make5 size5)
set_option linter.unusedVariables false
set_option linter.unusedSimpArgs false

def hdr (gen n : Int) : List Int := [156, gen % 256, n / 256 % 256, n % 256]
def four (s : Int) : List Int := [s / 16777216, s / 65536 % 256, s / 256 % 256, s % 256]
/-- A body's frame. -/
def frameL (gen : Int) (body : List Int) : List Int := hdr gen body.length ++ body ++ four (Crc.sumF (hdr gen body.length ++ body))
def byteAll (l : List Int) : Prop := ∀ x ∈ l, 0 ≤ x ∧ x ≤ 255
theorem hdr_bytes (gen n : Int) : byteAll (hdr gen n) := by
  intro x hx
  simp only [hdr, List.mem_cons, List.not_mem_nil, or_false] at hx
  omega
theorem sumF_range (l : List Int) : 0 ≤ Crc.sumF l ∧ Crc.sumF l < 4294967296 := by
  unfold Crc.sumF
  have := (~~~ Crc.takeF Crc.ones l).isLt
  omega
set_option maxRecDepth 100000 in
set_option maxHeartbeats 4000000 in
theorem laid_is (gen : Int) (A : Option Addr) (l : List Int) (c : Nat) (w : World) (hL : Crc.Laid w) (hr : Kd.C (Kd.int .u8) w A l.length l) (hc : l.length ≤ c) (hb : byteAll l) (hm : l.length ≤ 1000000) :
    Calls Tryd.prog 10 #[.int .i64 gen, .slice A l.length c] w fun e w' => ∃ v : Value, e = .returned v ∧ Kd.R (Kd.int .u8) 5 w' w.heap.size (fun _ => True) v (frameL gen l) ∧ Below w.heap.size w w' := by
  have HL := Aside0.mk hL
  have HR := Aside0.mk hr
  have HBY := Aside0.mk hb
  have h5 := info5
  clear hL hr hb
  go_enter Tryd.func10, Tryd.ntmps10
  have HB := Aside0.mk (Below.refl w.heap.size w)
  obtain ⟨Y, hY⟩ : ∃ Y, Y = hdr gen l.length ++ l := ⟨_, rfl⟩
  have hYl : Y.length = 4 + l.length := by rw [hY, List.length_append]; simp [hdr]
  have hYb : byteAll Y := by
    rw [hY]; intro x hx
    rcases List.mem_append.1 hx with h | h
    · exact hdr_bytes _ _ x h
    · exact HBY.out x h
  have HY := Aside0.mk hY
  have HYL := Aside0.mk hYl
  have HYB := Aside0.mk hYb
  clear hY hYl hYb
  obtain ⟨hs0, hs1⟩ := sumF_range Y
  obtain ⟨s, hs⟩ : ∃ s, Crc.sumF Y = s := ⟨_, rfl⟩
  rw [hs] at hs0 hs1
  have HS := Aside0.mk hs
  clear hs
  go_wp2_with (first
   | ((with_reducible refine gate_dst (N := 17) rfl ?_); refine Kd.R_lit (Kd.int .u8) _ 5 ?hg (N := 17) ?hd (xs := hdr gen l.length) (inner := [.int .u8 156, .int .u8 (gen % 256), .int .u8 ((l.length : Int) / 256 % 256), .int .u8 ((l.length : Int) % 256)]) (ok := fun _ => True) (okp := fun _ => True) ?hr ?hp (fun _ hk => hk) trivial (Below.refl _ _) (Nat.le_refl _) (by simp [hdr, four]) ?_; (case hd => rfl); (case hg => rfl); (case hr => first | (go_simp; done) | (go_simp; rfl)); (case hp => exact (Reps.one (show Kd.M (Kd.int .u8) _ _ _ 156 [.int .u8 156] from rfl) (Reps.one (show Kd.M (Kd.int .u8) _ _ _ (gen % 256) [.int .u8 (gen % 256)] from rfl) (Reps.one (show Kd.M (Kd.int .u8) _ _ _ ((l.length : Int) / 256 % 256) [.int .u8 ((l.length : Int) / 256 % 256)] from rfl) (Reps.one (show Kd.M (Kd.int .u8) _ _ _ ((l.length : Int) % 256) [.int .u8 ((l.length : Int) % 256)] from rfl) (Reps.none _ _)))))); intro v1 w1 ho hb hg_ hnew_; clear hg_ hnew_; have HO1 := Aside0.mk ho; have HB1 := Aside0.mk hb; clear ho hb HB)
   | ((with_reducible refine gate_builtin (b := .append) (xs := #[.tmp 17, .tmp 18]) rfl ?_); at_builtin; refine Kd.R_append_rows (Kd.int .u8) (w0 := w) w.heap.size rfl (.tmp 17) (.tmp 18) 22 5 (.int .u8 0) 1 rfl Tryd.underlying22 info5 rfl (by decide) (by omega) v1 (hdr gen l.length) l _ _ _ (fun _ => True) (fun _ => False) rfl rfl ?aO ?aR (fun _ _ h => h) (fun _ h => h.elim) ?aF ?aB ?aS ?aL ?_; (case aR => exact Kd.C_below HR.out HB1.out); (case aB => exact HB1.out); (case aF => exact fun _ _ => trivial); (case aO => exact HO1.out); (case aS => exact HB1.out.size); (case aL => simp [hdr]; omega); intro v2 w2 ho hb hg hat; clear hg hat; have ho2 : Kd.R (Kd.int .u8) 5 w2 w.heap.size (fun _ => True) v2 Y := (by rw [HY.out]; exact ho); clear ho; have HO2 := Aside0.mk ho2; have HB2 := Aside0.mk hb; clear ho2 hb HO1 HB1; obtain ⟨A2, c2, rfl⟩ := Kd.R_slice HO2.out)
   | (go_at_call 12; have HT := Crc.of_one A2 c2 Y w2 (HL.out.below HB2.out HL.out.lt) (Kd.R_reads' HO2.out).2.2 (Kd.R_reads' HO2.out).2.1 HYB.out; rw [HS.out] at HT; refine HT.mono ?_; clear HT; rintro e w' ⟨rfl, rfl⟩)
   | ((with_reducible refine gate_dst (N := 38) rfl ?_); refine Kd.R_lit (Kd.int .u8) _ 5 ?hg (N := 38) ?hd (xs := four s) (inner := [.int .u8 (s / 16777216), .int .u8 (s / 65536 % 256), .int .u8 (s / 256 % 256), .int .u8 (s % 256)]) (ok := fun _ => True) (okp := fun _ => True) ?hr ?hp (fun _ hk => hk) trivial (Below.refl _ _) (Nat.le_refl _) (by simp [hdr, four]) ?_; (case hd => rfl); (case hg => rfl); (case hr => first | (go_simp; done) | (go_simp; rfl)); (case hp => exact (Reps.one (show Kd.M (Kd.int .u8) _ _ _ (s / 16777216) [.int .u8 (s / 16777216)] from rfl) (Reps.one (show Kd.M (Kd.int .u8) _ _ _ (s / 65536 % 256) [.int .u8 (s / 65536 % 256)] from rfl) (Reps.one (show Kd.M (Kd.int .u8) _ _ _ (s / 256 % 256) [.int .u8 (s / 256 % 256)] from rfl) (Reps.one (show Kd.M (Kd.int .u8) _ _ _ (s % 256) [.int .u8 (s % 256)] from rfl) (Reps.none _ _)))))); intro v3 w3 ho hb hg_ hnew_; clear hg_ hnew_; have HO3 := Aside0.mk ho; have HB3 := Aside0.mk (below_step (below_alloc HB2.out _) hb); have HO4 := Aside0.mk (Kd.R_below (Kd.R_alloc HO2.out _) hb); clear ho hb HO2 HB2; obtain ⟨A3, c3, rfl⟩ := Kd.R_slice HO3.out)
   | ((with_reducible refine gate_builtin (b := .append) (xs := #[.tmp 23, .tmp 38]) rfl ?_); at_builtin; refine Kd.R_append_rows (Kd.int .u8) (w0 := w) w.heap.size rfl (.tmp 23) (.tmp 38) 22 5 (.int .u8 0) 1 rfl Tryd.underlying22 info5 rfl (by decide) (by omega) (.slice A2 Y.length c2) Y (four s) _ _ _ (fun _ => True) (fun _ => False) rfl rfl ?aO ?aR (fun _ _ h => h) (fun _ h => h.elim) ?aF ?aB ?aS ?aL ?_; (case aR => exact (Kd.R_reads' HO3.out).2.2); (case aB => exact HB3.out); (case aF => exact fun _ _ => trivial); (case aO => exact HO4.out); (case aS => exact HB3.out.size); (case aL => simp only [HYL.out, four, List.length_cons, List.length_nil]; omega); intro v4 w4 ho hb hg hat; clear hg hat; have HO5 := Aside0.mk ho; have HB5 := Aside0.mk hb; clear ho hb HO3 HO4 HB3))
  go_ret
  exact ⟨_, rfl, by unfold frameL; rw [← HY.out, HS.out]; exact HO5.out, HB5.out⟩

/-- A row whose front is known, the rest spare. -/
theorem own_part {w : World} {g base cap n : Nat} {l : List Int} {z : List Value} (hb : w.heap[g]? = some (.cells (Octet.bytes l ++ z).toArray 5 (0, 0))) (hg : base ≤ g) (hn : l.length = n) (hz : n + z.length = cap) (hm : cap ≤ 1000000) : Kd.R (Kd.int .u8) 5 w base (fun _ => True) (.slice (some ⟨g, 0, none⟩) n cap) l := by
  subst hn
  refine Kd.R_of_own (h1 := fun _ => rfl) ⟨by simp [encs_length], .inr ⟨g, cap, (Octet.bytes l ++ z).toArray, rfl, hg, hb, by omega, by unfold maxLen; omega, by simp [Octet.bytes]; omega, ?_⟩⟩ (fun _ _ => trivial)
  rw [Nat.mul_one]
  simp [Octet.bytes, encs]
def zer (n : Nat) : List Value := List.replicate n (Value.int .u8 0)
/-- 'make([]byte, 4+n, 8+n)'. -/
theorem make48 (n : Nat) (hn : n ≤ 1000000) (w : World) : (Instr.makeSlice 22 (.int .i64 (4 + (n : Int))) (.int .i64 (8 + (n : Int)))).run Tryd.prog w = .ok (.slice (some ⟨w.heap.size, 0, none⟩) (4 + n) (8 + n)) (w.alloc (.cells (zer (8 + n)).toArray 5)) := by
  obtain ⟨i, hi, he⟩ := Option.map_eq_some_iff.1 info5
  injection he with h1 he
  injection he with h2 h3
  have := run_makeSlice (P := Tryd.prog) (w := w) 22 5 i (.int .u8 0) (by kernel_rfl) hi h1 .i64 .i64 (4 + (n : Int)) (8 + (n : Int)) (by omega) (by omega) (by rw [h2]; omega) (by rw [h3]; omega) (by omega)
  rw [h2, show (8 + (n : Int)).toNat = 8 + n by omega, show (4 + (n : Int)).toNat = 4 + n by omega, Nat.mul_one] at this
  rw [this]
  congr 2
  rw [zer, ← Octet.zeros_eq]; rfl
theorem zer_add (m n : Nat) : zer (m + n) = zer m ++ zer n := by simp [zer, List.replicate_append_replicate]
theorem set4 {W : World} {g n : Nat} (h : W.heap[g]? = some (.cells (zer (8 + n)).toArray 5 (0, 0))) (a b c d : Value) :
    ((((W.setCell ⟨g, 0, none⟩ a).setCell ⟨g, 1, none⟩ b).setCell ⟨g, 2, none⟩ c).setCell ⟨g, 3, none⟩ d).heap[g]? = some (.cells (a :: b :: c :: d :: zer (4 + n)).toArray 5 (0, 0)) := by
  have h4 := blk_set (blk_set (blk_set (blk_set h 0 a) 1 b) 2 c) 3 d
  rw [h4, show 8 + n = 4 + n + 1 + 1 + 1 + 1 by omega]
  simp [zer, List.replicate_succ]
theorem set4_below {w W : World} (h : Below w.heap.size w W) (a b c d : Value) :
    Below w.heap.size w ((((W.setCell ⟨w.heap.size, 0, none⟩ a).setCell ⟨w.heap.size, 1, none⟩ b).setCell ⟨w.heap.size, 2, none⟩ c).setCell ⟨w.heap.size, 3, none⟩ d) :=
  below_set (below_set (below_set (below_set h (Nat.le_refl _)) (Nat.le_refl _)) (Nat.le_refl _)) (Nat.le_refl _)
/-- 'copy(out[off:], b)', into a row that has room. -/
theorem copy_at (g off : Nat) (cur : List Value) (t : TypeId) (A : Option Addr) (l : List Int) (c d : Nat) (w : World) (hg : w.heap[g]? = some (.cells cur.toArray t (0, 0))) (hfit : off + l.length ≤ cur.length) (hr : Kd.C (Kd.int .u8) w A l.length l) :
    ∃ w', (Builtin.copy_ #[22, 22] 3 #[.slice (some ⟨g, off, none⟩) l.length d, .slice A l.length c]).run Tryd.prog w = .ok (.int .i64 (l.length : Int)) w' ∧ w'.heap[g]? = some (.cells (cur.take off ++ (Octet.bytes l ++ cur.drop (off + l.length))).toArray t (0, 0)) ∧ (∀ B w0, Below B w0 w → B ≤ g → Below B w0 w') := by
  have hb := Octet.bytes_len l
  rcases Nat.eq_zero_or_pos l.length with h0 | h0
  · obtain rfl : l = [] := List.eq_nil_of_length_eq_zero h0
    have := run_copy_none (P := Tryd.prog) w 22 22 3 5 (some ⟨g, off, none⟩) A 0 d 0 c (by kernel_rfl) size5 rfl
    exact ⟨w, this, by simpa [Octet.bytes] using hg, fun _ _ h _ => h⟩
  · obtain ⟨ad, rfl, hc⟩ := Octet.reads_cells hr h0
    have := run_copy_row (P := Tryd.prog) w 22 22 3 5 g off l.length d ad l.length c cur.toArray t (Octet.bytes l) (by kernel_rfl) size5 hg (by simp [hb]) hc (by simp [hb]; omega) (Octet.bytes_one l)
    refine ⟨_, this.trans ?_, setRow_heap w g _ _ t _ hg, fun B w0 h hB => below_setRow h hB _⟩
    congr 2
    · simp [goInt, hb]
    · simp [hb]
set_option maxRecDepth 100000 in
set_option maxHeartbeats 4000000 in
theorem seal_yes (gen : Int) (A : Option Addr) (l : List Int) (c : Nat) (w : World) (hL : Crc.Laid w) (hr : Kd.C (Kd.int .u8) w A l.length l) (hc : l.length ≤ c) (hb : byteAll l) (hg1 : 1 ≤ gen) (hg3 : gen ≤ 3) (hm : l.length ≤ 65499) :
    Calls Tryd.prog 9 #[.int .i64 gen, .slice A l.length c] w fun e w' => ∃ v : Value, e = .returned (.tuple #[v, .int .i64 0]) ∧ Kd.R (Kd.int .u8) 5 w' w.heap.size (fun _ => True) v (frameL gen l) ∧ Below w.heap.size w w' := by
  have HL := Aside0.mk hL
  have HR := Aside0.mk hr
  have HBY := Aside0.mk hb
  have h5 := info5
  clear hL hr hb
  obtain ⟨Y, hY⟩ : ∃ Y, Y = hdr gen l.length ++ l := ⟨_, rfl⟩
  have hYl : Y.length = 4 + l.length := by rw [hY, List.length_append]; simp [hdr]
  have hYb : byteAll Y := by
    rw [hY]; intro x hx
    rcases List.mem_append.1 hx with h | h
    · exact hdr_bytes _ _ x h
    · exact HBY.out x h
  have HY := Aside0.mk hY
  have HYL := Aside0.mk hYl
  have HYB := Aside0.mk hYb
  clear hY hYl hYb
  obtain ⟨hs0, hs1⟩ := sumF_range Y
  obtain ⟨s, hs⟩ : ∃ s, Crc.sumF Y = s := ⟨_, rfl⟩
  rw [hs] at hs0 hs1
  have HS := Aside0.mk hs
  clear hs
  have hmk := make48 l.length (by omega) w
  obtain ⟨W0, hW0⟩ : ∃ W0, W0 = w.alloc (.cells (zer (8 + l.length)).toArray 5) := ⟨_, rfl⟩
  rw [← hW0] at hmk
  have hb0 : W0.heap[w.heap.size]? = some (.cells (zer (8 + l.length)).toArray 5 (0, 0)) := by rw [hW0]; exact heap_alloc_new w _
  have hbel0 : Below w.heap.size w W0 := by rw [hW0]; exact (Below.refl _ _).alloc (Nat.le_refl _) _
  have hsz : w.heap.size < W0.heap.size := blk_lt hb0
  have zc : ∀ i, i < 4 → W0.cell? ⟨w.heap.size, i, none⟩ = some (.int .u8 0) := fun i hi => by
    refine (blk_cell hb0 i).trans ?_
    have : i < 8 + l.length := by omega
    simp [zer, this]
  have z0 := zc 0 (by omega)
  have z1 := zc 1 (by omega)
  have z2 := zc 2 (by omega)
  have z3 := zc 3 (by omega)
  have f0 := blk_frozen hb0 0
  have f1 := blk_frozen hb0 1
  have f2 := blk_frozen hb0 2
  have f3 := blk_frozen hb0 3
  obtain ⟨w5, hcp, hb5, hbel5⟩ := copy_at w.heap.size 4 _ 5 A l c (8 + l.length - 4) _ (set4 hb0 (Value.int .u8 156) (Value.int .u8 gen) (Value.int .u8 ((l.length : Int) / 256)) (Value.int .u8 ((l.length : Int) % 256))) (by simp [zer]; omega) (Kd.C_below HR.out (set4_below hbel0 _ _ _ _))
  have HB5 := Aside0.mk (hbel5 _ _ (set4_below hbel0 _ _ _ _) (Nat.le_refl _))
  have hb6 : w5.heap[w.heap.size]? = some (.cells (Octet.bytes Y ++ zer 4).toArray 5 (0, 0)) := by
    rw [hb5, HY.out]
    have e1 : gen % 256 = gen := by omega
    have e2 : (l.length : Int) / 256 % 256 = (l.length : Int) / 256 := by omega
    have e3 : (zer (4 + l.length)).drop l.length = zer 4 := by simp [zer]
    have e4 : ∀ (a b c d : Value) (Z : List Value), (a :: b :: c :: d :: Z).drop (4 + l.length) = Z.drop l.length := fun a b c d Z => by rw [Nat.add_comm]; rfl
    rw [e4, e3]
    simp [Octet.bytes, hdr, e1, e2]
  have HO5 := Aside0.mk (own_part (base := w.heap.size) hb6 (Nat.le_refl _) HYL.out (show 4 + l.length + (zer 4).length = 8 + l.length by simp [zer]; omega) (by omega))
  clear hb0 hbel0 zc hW0 hb5 hb6 hbel5
  go_enter Tryd.func9, Tryd.ntmps9
  go_wp2_with (first
   | (go_at_call 12; go_loud (have HT := Crc.of_one (some ⟨w.heap.size, 0, none⟩) (8 + l.length) Y w5 (HL.out.below HB5.out HL.out.lt) (Kd.R_reads' HO5.out).2.2 (by rw [HYL.out]; omega) HYB.out; rw [HS.out, HYL.out] at HT; refine HT.mono ?_; clear HT; rintro e w' ⟨rfl, rfl⟩))
   | ((with_reducible refine gate_dst (N := 60) rfl ?_); refine Kd.R_lit (Kd.int .u8) _ 5 ?hg (N := 60) ?hd (xs := four s) (inner := [.int .u8 (s / 16777216), .int .u8 (s / 65536 % 256), .int .u8 (s / 256 % 256), .int .u8 (s % 256)]) (ok := fun _ => True) (okp := fun _ => True) ?hr ?hp (fun _ hk => hk) trivial (Below.refl _ _) (Nat.le_refl _) (by simp [hdr, four]) ?_; (case hd => rfl); (case hg => rfl); (case hr => first | (go_simp; done) | (go_simp; rfl)); (case hp => exact (Reps.one (show Kd.M (Kd.int .u8) _ _ _ (s / 16777216) [.int .u8 (s / 16777216)] from rfl) (Reps.one (show Kd.M (Kd.int .u8) _ _ _ (s / 65536 % 256) [.int .u8 (s / 65536 % 256)] from rfl) (Reps.one (show Kd.M (Kd.int .u8) _ _ _ (s / 256 % 256) [.int .u8 (s / 256 % 256)] from rfl) (Reps.one (show Kd.M (Kd.int .u8) _ _ _ (s % 256) [.int .u8 (s % 256)] from rfl) (Reps.none _ _)))))); intro v3 w3 ho hb hg_ hnew_; clear hg_ hnew_; have HO3 := Aside0.mk ho; have HB3 := Aside0.mk (below_step (below_alloc HB5.out _) hb); have HO4 := Aside0.mk (Kd.R_below (Kd.R_alloc HO5.out _) hb); clear ho hb HO5 HB5; obtain ⟨A3, c3, rfl⟩ := Kd.R_slice HO3.out)
   | ((with_reducible refine gate_builtin (b := .append) (xs := #[.tmp 48, .tmp 60]) rfl ?_); at_builtin; refine Kd.R_append_rows (Kd.int .u8) (w0 := w) w.heap.size rfl (.tmp 48) (.tmp 60) 22 5 (.int .u8 0) 1 rfl Tryd.underlying22 info5 rfl (by decide) (by omega) (.slice (some ⟨w.heap.size, 0, none⟩) (4 + l.length) (8 + l.length)) Y (four s) _ _ _ (fun _ => True) (fun _ => False) rfl rfl ?aO ?aR (fun _ _ h => h) (fun _ h => h.elim) ?aF ?aB ?aS ?aL ?_; (case aR => exact (Kd.R_reads' HO3.out).2.2); (case aB => exact HB3.out); (case aF => exact fun _ _ => trivial); (case aO => exact HO4.out); (case aS => exact HB3.out.size); (case aL => simp only [HYL.out, four, List.length_cons, List.length_nil]; omega); intro v4 w4 ho hb hg hat; clear hg hat; have HO6 := Aside0.mk ho; have HB6 := Aside0.mk hb; clear ho hb HO3 HO4 HB3))
  go_ret2
  exact ⟨_, rfl, by unfold frameL; rw [← HY.out, HS.out]; exact HO6.out, HB6.out⟩
end Go.Proofs.YtdamjkfggmmmeabDoor.Frame
