/- The sum's table as the row's condition lays it. -/
import Derived.Test.YtdamjkfggmmmeacDoorRows
import Derived.Test.YtdamjkfggmmmeacDoorCrc
import Derived.Lib.LaidTab
import Derived.LaidMore
import Derived.Stop.Joined
namespace Go.Proofs.YtdamjkfggmmmeacDoor.Crc
open Go.RowKit Go.Proofs.YtdamjkfggmmmeacDoorW.PrintWords
theorem gHalves : Tryd.prog.globalNamed "polyglot/crc.halves" = some 0 := by kernel_rfl
theorem tHalves : (Tryd.prog.globals[0]?).map (·.type) = some 43 := by kernel_rfl
theorem laid_C {W : World} (h : laidMetH Tryd.prog [("polyglot/crc.halves", Rows.laid_polyglot_crc_halves)] W) : Kd.C (Kd.int .u32) W (some ⟨0, 0, none⟩) Crc.tabL.length Crc.tabL := by
  rw [MakeChecks.laidMetH_plain _ _ _ (by kernel_rfl)] at h
  have hT := Lib.tabIs_of_head (k := .u32) (zs := Crc.tabL) (rest := []) gHalves tHalves Tryd.underlying43 Tryd.underlying28 (by kernel_rfl) (by kernel_rfl) h
  refine ⟨rfl, by decide, fun _ => ⟨_, rfl, fun j p hj => ⟨[.int .u32 p], rfl, rfl, fun i u hu => ?_⟩⟩⟩
  have hi : i = 0 := by
    have := (List.getElem?_eq_some_iff.1 hu).1
    simp at this; omega
  subst hi
  have hu' : Value.int .u32 p = u := by simpa using hu
  subst hu'
  have hadd : (⟨0, 0, none⟩ : Addr).add (j * (Kd.int .u32).sz + 0) = ⟨0, j, none⟩ := by rw [add_plain]; simp [Kd.int, Kd.scalar]
  have hlt := (List.getElem?_eq_some_iff.1 hj).1
  rw [hadd, hT.cell gHalves j hlt, List.getD_eq_getElem?_getD, hj]
  rfl
/-- The door's own heap meets the condition. -/
theorem door_met (os : Os) (args : Array Value) : laidMetH Tryd.prog [("polyglot/crc.halves", Rows.laid_polyglot_crc_halves)] ((World.doorLaid Tryd.prog 14 os).forCall (fun _ _ => 0) ⟨#[], args, []⟩).memory :=
  laidMetH_of_parts3 (fuel := 8) (laidMet_of_run' 8 (by kernel_rfl) (by kernel_rfl)) (by kernel_rfl) (by kernel_rfl)
end Go.Proofs.YtdamjkfggmmmeacDoor.Crc
