/- The bound on a script that came in. -/
import Derived.Test.YtmdeljacbekbpaaDoorBulkByt
import Derived.Test.YtmdeljacbekbpaaDoorOpenCOp
namespace Go.Proofs.YtmdeljacbekbpaaDoor
open Go.ChangeShapes Go.WideShapes Go.ChangeAt Go.RowKit

theorem bulk_cop {H : Type} {enc : TypeId × Value → H} {W : World} {q : Option Addr} {n cap : Nat} {d : DataW H} {ps : List MemPlace}
    (h : DataW.Trod enc Tryd.prog W 0 (fun _ => true) true 63 (.slice q n cap) d ps) : n ≤ Rows.uptoBulk d := by
  obtain ⟨fu, hf⟩ := h
  rcases Go.Deep.open_slice Tryd.underlying63 hf with ⟨hcs, hx⟩ | ⟨a, len, cap2, m, n2, D, Pl, hcs, _, hl, _, hmm, hx, hel⟩
  · have e : [Value.slice q n cap] = [Value.slice none 0 0] := hcs
    cases e
    exact Nat.zero_le _
  · have e : [Value.slice q n cap] = [Value.slice (some a) len cap2] := hcs
    cases e
    have hx2 := congrArg Prod.fst hx
    simp only at hx2
    rw [hx2]
    have h1 := bulks.slice_le ((List.range n).map D) ((List.range (m - n)).map fun j => D (n + j))
    have h2 : ((List.range n).map D).length = n := by simp
    omega

end Go.Proofs.YtmdeljacbekbpaaDoor
