/- tenementlaw01.clean: a frame of noughts. -/
import Derived.Test.YthfkpbfapkpnfabPhysMore
namespace Go.Proofs.Ythfkpbfapkpnfab
open Go.RowKit
set_option maxRecDepth 100000

def AllZero (l : List Int) : Prop := ∀ j, j < 256 → l[j]? = some 0
theorem allZero_free : AllZero freeFr.bytes := fun j hj => by show (List.replicate 256 (0 : Int))[j]? = some 0; rw [List.getElem?_replicate, if_pos hj]

set_option maxHeartbeats 400000 in
theorem clean_yes {B F : Nat} {S : List Fr} (i : Int) (f : Fr) (w : World) (h : PhM w B F S) (hi : 0 ≤ i) (hf : S[i.toNat]? = some f) (hz : AllZero f.bytes) :
    Calls Try.prog 31 #[.pointer (some ⟨B, 0, none⟩), .int .i64 i] w fun e w' => e = .returned (.bool true) ∧ Mod No w w' := by
  have hlt : i.toNat < S.length := (List.getElem?_eq_some_iff.1 hf).1
  have hin : InP S i 0 256 := ⟨⟨hi, by omega⟩, by omega, by omega, by omega⟩
  have hrd := read_in i 0 256 f w h hin hf
  have hcells : ∀ w' : World, w'.heap[w.heap.size]? = some (.cells (((f.bytes.drop (0 : Int).toNat).take (256 : Int).toNat).map (Value.int .u8)).toArray 5 (0, 0)) → ∀ j, j < 256 → w'.cell? ⟨w.heap.size, j, none⟩ = some (.int .u8 0) := by
    intro w' hg j hj
    rw [row_cell hg, List.getElem?_map, List.getElem?_take_of_lt (by exact hj), List.getElem?_drop, show (0 : Int).toNat + j = j by simp, hz j hj]
    rfl
  have HC := Lib.hid hcells; clear hcells hz
  go_enter Try.func31, Try.ntmps31
  go_wp2_with (go_at_call 17; refine hrd.mono ?_; rintro e w' ⟨rfl, hm, hlt2, hg⟩; have HG := Lib.hid (HC.out w' hg); clear hg)
  go_loop [7] (fun v => ∃ k : Nat, k ≤ 256 ∧ v = .int .i64 k) (fun v => 256 - (intOf v).toNat)
  case atStart => exact ⟨0, Nat.zero_le _, rfl⟩
  case round =>
    obtain ⟨k, hk, rfl⟩ := hrel
    by_cases hlt : k < 256
    · have hc := HG.out k hlt
      go_wp2
      go_round
      case rel => exact ⟨k + 1, by omega, by go_num⟩
      case measure => simp [intOf]; omega
    · obtain rfl : k = 256 := by omega
      go_wp2
      go_ret
      exact ⟨rfl, hm⟩

end Go.Proofs.Ythfkpbfapkpnfab
