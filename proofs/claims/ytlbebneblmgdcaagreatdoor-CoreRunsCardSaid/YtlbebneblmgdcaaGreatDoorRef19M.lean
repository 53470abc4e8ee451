/- The document's memory of layer 19: loads and stores. -/
import Derived.Test.YtlbebneblmgdcaaGreatDoorRef19
import Derived.Test.YtlbebneblmgdcaaGreatDoorCoreStepA
import Derived.Deep.RegionHeld3
namespace Go.Proofs.YtlbebneblmgdcaaGreatDoor
open Go.RowKit
set_option maxRecDepth 100000

theorem rstoreR {K : RfK} {S : List Fr} (root va : Int) (q : Option Addr) (bs : List Int) (c : Nat) (w : World) (h : RfM w K S) (h0 : 0 ≤ va) (h1 : va ≤ 4294967295) (hy : Byt w q bs c) (hF : ∀ b off, 0 < bs.length → q = some ⟨b, off, none⟩ → ¬ K.inn b) :
    Calls Tryz.prog 67 #[.pointer (some ⟨K.R, 0, none⟩), .int .i64 root, .int .u32 va, .slice q bs.length c] w fun e w' => e = .returned (.int .i64 (storeR S root va bs).1) ∧ Mod K.inn w w' ∧ RfM w' K (storeR S root va bs).2 := by
  by_cases hb : badN va bs.length
  · refine (rstore_bad (K := K) root va q _ c w h0 h1 hb (by have := hy.len; omega)).mono ?_
    rintro e w' ⟨rfl, hm⟩
    unfold storeR
    rw [if_pos (show (bs.length : Int) < 0 ∨ 256 < (bs.length : Int) ∨ (0 < (bs.length : Int) ∧ 1048576 < va + bs.length) from hb)]
    exact ⟨rfl, hm.of_no, h.keptNo hm⟩
  · obtain ⟨N, hNe, hN, hv⟩ := not_bad hb
    obtain rfl : N = bs.length := by omega
    unfold storeR
    rw [if_neg (show ¬ ((bs.length : Int) < 0 ∨ 256 < (bs.length : Int) ∨ (0 < (bs.length : Int) ∧ 1048576 < va + bs.length)) from hb)]
    refine (rstore_in root va q bs c w h h0 hN hv h1 hy hF).mono ?_
    rintro e w' (⟨he, rfl, hm, hP⟩ | ⟨he, rfl, hm, hP⟩)
    · rw [if_neg he]
      exact ⟨rfl, hm.of_no, hP⟩
    · rw [if_pos he]
      exact ⟨rfl, hm, hP⟩

/-- A cpu's value. -/
def cpuR (R : List Int) (pc : Int) : Value := .agg (R.map (Value.int .u32) ++ [Value.int .u32 pc]).toArray

end Go.Proofs.YtlbebneblmgdcaaGreatDoor
