/- core: what an instruction works on; the operators on registers. -/
import Derived.Test.YtlbebneblmgdcaaDoorModBase
import Derived.RegionTactic
import Derived.ChangeAlike
import Derived.BigRegion
import Derived.BigQuiet
import Derived.IntWalk
import Derived.Deep.DeepCutAuto
import Derived.Deep.CutRange
import Derived.Deep.CutBlock
import Derived.Lib.SmallJoins
namespace Go.Proofs.YtlbebneblmgdcaaDoor
open Go.RowKit
set_option maxRecDepth 100000

/-- A cpu's cells: eight registers, the place, the machine, the root, the stop. -/
def cpuL (R : List Int) (pc : Int) (mv : Value) (root : Int) (st : List Value) : List Value := R.map (Value.int .u32) ++ (.int .u32 pc :: mv :: .int .i64 root :: st)
def CpuAt (w : World) (P : Nat) (R : List Int) (pc : Int) (mv : Value) (root : Int) (st : List Value) : Prop := w.heap[P]? = some (.cells (cpuL R pc mv root st).toArray 74 (0, 0)) ∧ R.length = 8

theorem CpuAt.reg {w : World} {P : Nat} {R : List Int} {pc : Int} {mv : Value} {root : Int} {st : List Value} (h : CpuAt w P R pc mv root st) {k : Nat} (hk : k < 8) : w.cell? ⟨P, k, none⟩ = some (.int .u32 (R.getD k 0)) := by
  rw [row_cell h.1]
  have hl := h.2
  unfold cpuL
  rw [List.getElem?_append_left (by rw [List.length_map]; omega), List.getElem?_map, List.getD_eq_getElem?_getD, List.getElem?_eq_getElem (by omega)]
  rfl
theorem CpuAt.rest {w : World} {P : Nat} {R : List Int} {pc : Int} {mv : Value} {root : Int} {st : List Value} (h : CpuAt w P R pc mv root st) (j : Nat) : w.cell? ⟨P, 8 + j, none⟩ = (.int .u32 pc :: mv :: .int .i64 root :: st)[j]? := by
  rw [row_cell h.1]
  have hl := h.2
  unfold cpuL
  rw [List.getElem?_append_right (by rw [List.length_map]; omega), List.length_map, hl, Nat.add_sub_cancel_left]
theorem CpuAt.set {w : World} {P : Nat} {R : List Int} {pc : Int} {mv : Value} {root : Int} {st : List Value} (h : CpuAt w P R pc mv root st) {k : Nat} (hk : k < 8) (x : Int) : CpuAt (w.setCell ⟨P, k, none⟩ (.int .u32 x)) P (R.set k x) pc mv root st := by
  have hl := h.2
  refine ⟨?_, by rw [List.length_set]; exact hl⟩
  rw [Go.Joins.block_setCell h.1]
  congr 2
  unfold cpuL
  rw [List.setIfInBounds_toArray, List.set_append_left _ _ (by rw [List.length_map]; omega), List.map_set]
theorem CpuAt.kept {w w' : World} {P : Nat} {R : List Int} {pc : Int} {mv : Value} {root : Int} {st : List Value} (h : CpuAt w P R pc mv root st) {Q : Nat → Prop} (hm : Mod Q w w') (hq : ¬ Q P) : CpuAt w' P R pc mv root st := ⟨hm.blk h.1 hq, h.2⟩
/-- What a method on registers leaves. -/
def DoP (w : World) (P : Nat) (R' : List Int) (pc' : Int) (mv : Value) (root : Int) (st' : List Value) (e : Ending) (w' : World) : Prop := e = .returned (.tuple #[]) ∧ CpuAt w' P R' pc' mv root st' ∧ Mod (fun k => k = P) w w'

theorem mod_at {w : World} {P : Nat} (k : Nat) (v : Value) : Mod (fun k => k = P) w (w.setCell ⟨P, k, none⟩ v) := (Mod.refl (fun k => k = P) w).setCell (fun _ => rfl) v
theorem DoP.of_set {w : World} {P : Nat} {R : List Int} {pc : Int} {mv : Value} {root : Int} {st : List Value} (h : CpuAt w P R pc mv root st) {a : Nat} (ha : a < 8) (x : Int) (o : Obj) :
    DoP w P (R.set a x) pc mv root st (.returned (.tuple #[])) ((w.setCell ⟨P, a, none⟩ (.int .u32 x)).alloc o).drew :=
  ⟨rfl, (h.set ha _).kept ((Mod.refl No _).alloc _).drew (fun q => q), ((mod_at a _).alloc _).drew⟩
theorem CpuAt.pcSet {w : World} {P : Nat} {R : List Int} {pc : Int} {mv : Value} {root : Int} {st : List Value} (h : CpuAt w P R pc mv root st) (x : Int) : CpuAt (w.setCell ⟨P, 8, none⟩ (.int .u32 x)) P R x mv root st := by
  have hl := h.2
  refine ⟨?_, hl⟩
  rw [Go.Joins.block_setCell h.1]
  congr 2
  unfold cpuL
  rw [List.setIfInBounds_toArray, List.set_append_right _ _ (by rw [List.length_map]; omega), List.length_map, hl]
  rfl
theorem CpuAt.stSet {w : World} {P : Nat} {R : List Int} {pc : Int} {mv : Value} {root : Int} {st : List Value} (h : CpuAt w P R pc mv root st) (j : Nat) (v : Value) : CpuAt (w.setCell ⟨P, 11 + j, none⟩ v) P R pc mv root (st.set j v) := by
  have hl := h.2
  refine ⟨?_, hl⟩
  rw [Go.Joins.block_setCell h.1]
  congr 2
  unfold cpuL
  rw [List.setIfInBounds_toArray, List.set_append_right _ _ (by rw [List.length_map]; omega), List.length_map, hl, show 11 + j - 8 = j + 1 + 1 + 1 by omega]
  rfl
theorem DoP.of_pc {w : World} {P : Nat} {R : List Int} {pc : Int} {mv : Value} {root : Int} {st : List Value} (h : CpuAt w P R pc mv root st) (x : Int) (o : Obj) :
    DoP w P R x mv root st (.returned (.tuple #[])) ((w.setCell ⟨P, 8, none⟩ (.int .u32 x)).alloc o).drew :=
  ⟨rfl, (h.pcSet _).kept ((Mod.refl No _).alloc _).drew (fun q => q), ((mod_at 8 _).alloc _).drew⟩
theorem regs_mem {R : List Int} (h : R.length = 8) {k : Nat} (hk : k < 8) : R.getD k 0 ∈ R := by
  rw [List.getD_eq_getElem?_getD, List.getElem?_eq_getElem (by omega)]
  exact List.getElem_mem _

end Go.Proofs.YtlbebneblmgdcaaDoor
