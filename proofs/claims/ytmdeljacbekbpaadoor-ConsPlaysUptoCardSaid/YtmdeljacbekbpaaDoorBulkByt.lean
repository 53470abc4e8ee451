/- The bound on a row of bytes that came in; the tables of utf8. -/
import Derived.Test.YtmdeljacbekbpaaDoorBulk
import Derived.Test.YtmdeljacbekbpaaDoorOpenByt
import Derived.Test.YtmdeljacbekbpaaDoorConsShelf
import Derived.Lib.LaidU8T
import Derived.MakeChecks
import Derived.Lay
namespace Go.Proofs.YtmdeljacbekbpaaDoor
open Go.ChangeShapes Go.WideShapes Go.ChangeAt Go.RowKit Go.Shelf

theorem bulk_byt {H : Type} {enc : TypeId × Value → H} {W : World} {q : Option Addr} {n cap : Nat} {d : DataW H} {ps : List MemPlace}
    (h : DataW.Trod enc Tryd.prog W 0 (fun _ => true) true 22 (.slice q n cap) d ps) : n ≤ Rows.uptoBulk d := by
  obtain ⟨fu, hf⟩ := h
  rcases open_ints Tryd.underlying22 Tryd.underlying5 row_cellsU8 hf with ⟨hcs, hx⟩ | ⟨a, len, cap2, zs, hcs, _, hl, hm, hz, hx, hcell, hwz⟩
  · have e : [Value.slice q n cap] = [Value.slice none 0 0] := hcs
    cases e
    exact Nat.zero_le _
  · have e : [Value.slice q n cap] = [Value.slice (some a) len cap2] := hcs
    cases e
    have hx2 := congrArg Prod.fst hx
    simp only at hx2
    rw [hx2]
    simp only [if_true] at hz
    have h1 := bulks.slice_le (lits (H := H) .u8 (zs.take n)) (lits .u8 (zs.drop n))
    have h2 : (lits (H := H) .u8 (zs.take n)).length = n := by simp [lits]; omega
    omega

set_option maxRecDepth 100000 in
theorem tabs16 {W : World} {L : List (String × DataW Unit)} (hL : laidMetH Tryd.prog L W) (e : L = [("unicode/utf8.acceptRanges", Lib.acceptData), ("unicode/utf8.first", Lib.firstData)]) : Lib.Utf8Tabs 0 1 W := by
  subst e
  rw [MakeChecks.laidMetH_plain _ _ _ (by kernel_rfl)] at hL
  exact utf8Tabs_of_readsT (U8Types.of260 Tryd.lays260) ⟨by kernel_rfl, by kernel_rfl, by kernel_rfl, by kernel_rfl, by kernel_rfl, by kernel_rfl, by kernel_rfl⟩ (Lib.laidMet.reads hL (.tail _ (.head _))) (Lib.laidMet.reads hL (.head _))

end Go.Proofs.YtmdeljacbekbpaaDoor
