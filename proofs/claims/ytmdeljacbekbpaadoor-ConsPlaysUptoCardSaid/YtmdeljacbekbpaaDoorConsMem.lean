/- A console in memory; its rings' places. -/
import Derived.Test.YtmdeljacbekbpaaDoorLaw16Zero
import Derived.BigQuiet
namespace Go.Proofs.YtmdeljacbekbpaaDoor
open Go.RowKit
set_option maxRecDepth 100000

/-- A console of the code's: its page, what it has moved out and in; its lines and the part of the next one are values. -/
structure Co where
  mfn : Int
  om : Int
  im : Int
structure Co.ok (c : Co) : Prop where
  o : 0 ≤ c.om ∧ c.om ≤ 65535
  i : 0 ≤ c.im ∧ c.im ≤ 65535
def Co.cells (c : Co) (lv pv : Value) : List Value := [.bool true, .int .i64 c.mfn, .int .i64 16, .int .i64 128, .int .i64 0, .int .i64 2, .int .u16 c.om, .int .i64 160, .int .i64 64, .int .i64 4, .int .i64 6, .int .u16 c.im, lv, pv]
def CoM (w : World) (b : Nat) (c : Co) (lv pv : Value) : Prop := w.heap[b]? = some (.cells (c.cells lv pv).toArray 59 (0, 0))
theorem CoM.at_ {w : World} {b : Nat} {c : Co} {lv pv : Value} (h : CoM w b c lv pv) (j : Nat) : w.cell? ⟨b, j, none⟩ = (c.cells lv pv)[j]? := row_cell h j
theorem CoM.free {w : World} {b : Nat} {c : Co} {lv pv : Value} (h : CoM w b c lv pv) (j : Nat) : w.frozen? ⟨b, j, none⟩ = false := row_free h j
theorem CoM.kept {Q : Nat → Prop} {w w' : World} {b : Nat} {c : Co} {lv pv : Value} (h : CoM w b c lv pv) (hm : Mod Q w w') (hq : ¬ Q b) : CoM w' b c lv pv := hm.blk h hq
theorem CoM.no {w w' : World} {b : Nat} {c : Co} {lv pv : Value} (h : CoM w b c lv pv) (hm : Mod No w w') : CoM w' b c lv pv := h.kept hm (fun q => q)
theorem CoM.setO {w : World} {b : Nat} {c : Co} {lv pv : Value} (h : CoM w b c lv pv) (x : Int) : CoM (w.setCell ⟨b, 6, none⟩ (.int .u16 x)) b { c with om := x } lv pv := row_set h 6 _
theorem CoM.setI {w : World} {b : Nat} {c : Co} {lv pv : Value} (h : CoM w b c lv pv) (x : Int) : CoM (w.setCell ⟨b, 11, none⟩ (.int .u16 x)) b { c with im := x } lv pv := row_set h 11 _
theorem CoM.setL {w : World} {b : Nat} {c : Co} {lv pv : Value} (h : CoM w b c lv pv) (x : Value) : CoM (w.setCell ⟨b, 12, none⟩ x) b c x pv := row_set h 12 _
theorem CoM.setP {w : World} {b : Nat} {c : Co} {lv pv : Value} (h : CoM w b c lv pv) (x : Value) : CoM (w.setCell ⟨b, 13, none⟩ x) b c lv x := row_set h 13 _

theorem pat_out {b : Nat} {c : Co} {lv pv : Value} (w : World) (h : CoM w b c lv pv) (ho : c.ok) :
    Calls Tryd.prog 42 #[.pointer (some ⟨b, 2, none⟩)] w fun e w' => e = .returned (.int .i64 (16 + c.om % 128)) ∧ Mod No w w' := by
  have c0 : w.cell? ⟨b, 2, none⟩ = some (.int .i64 16) := h.at_ 2
  have c1 : w.cell? ⟨b, 3, none⟩ = some (.int .i64 128) := h.at_ 3
  have c4 : w.cell? ⟨b, 6, none⟩ = some (.int .u16 c.om) := h.at_ 6
  have hr := ho.o
  obtain ⟨m, o, i⟩ := c
  dsimp only at *
  clear h ho
  go_enter Tryd.func42, Tryd.ntmps42
  go_wp2_with fail
  go_quiet (fail)
  go_wp2
  go_ret
  exact ⟨rfl, (Mod.refl No w).drewN _⟩
theorem pat_in {b : Nat} {c : Co} {lv pv : Value} (w : World) (h : CoM w b c lv pv) (ho : c.ok) :
    Calls Tryd.prog 42 #[.pointer (some ⟨b, 7, none⟩)] w fun e w' => e = .returned (.int .i64 (160 + c.im % 64)) ∧ Mod No w w' := by
  have c0 : w.cell? ⟨b, 7, none⟩ = some (.int .i64 160) := h.at_ 7
  have c1 : w.cell? ⟨b, 8, none⟩ = some (.int .i64 64) := h.at_ 8
  have c4 : w.cell? ⟨b, 11, none⟩ = some (.int .u16 c.im) := h.at_ 11
  have hr := ho.i
  obtain ⟨m, o, i⟩ := c
  dsimp only at *
  clear h ho
  go_enter Tryd.func42, Tryd.ntmps42
  go_wp2_with fail
  go_quiet (fail)
  go_wp2
  go_ret
  exact ⟨rfl, (Mod.refl No w).drewN _⟩

end Go.Proofs.YtmdeljacbekbpaaDoor
