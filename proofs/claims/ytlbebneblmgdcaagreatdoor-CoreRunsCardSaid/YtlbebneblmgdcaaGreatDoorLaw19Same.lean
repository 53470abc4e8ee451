/- tenementlaw19.same: the same bytes in all frames. -/
import Derived.Test.YtlbebneblmgdcaaGreatDoorBothG
import Derived.Test.YtlbebneblmgdcaaGreatDoorPhysH
import Derived.Deep.QuietTactic
import Derived.BigQuiet
namespace Go.Proofs.YtlbebneblmgdcaaGreatDoor
open Go.RowKit
set_option maxRecDepth 100000

set_option maxHeartbeats 8000000 in
theorem same19_yes {B F : Nat} {K : RfK} {S : List Fr} (w : World) (hP : PhM w B F S) (hR : RfM w K S) :
    Calls Tryz.prog 7 #[.pointer (some ⟨B, 0, none⟩), .pointer (some ⟨K.R, 0, none⟩)] w fun e w' => e = .returned (.bool true) ∧ Mod No w w' := by
  have hlenS := hP.len
  have HP := Lib.hid hP
  have HR := Lib.hid hR
  clear hP hR
  go_enter Tryz.func7, Tryz.ntmps7
  go_wp2_with fail
  go_loopw [5] (fun v wr => ∃ i : Nat, i ≤ S.length ∧ v = .int .i64 i ∧ Mod No w wr) (fun v _ => S.length - (intOf v).toNat)
  case atStart => exact ⟨0, Nat.zero_le _, rfl, Mod.refl _ _⟩
  case round =>
    obtain ⟨i, hi, rfl, hm⟩ := hrel
    have hRr := HR.out.keptNo hm
    obtain ⟨c1, hc1, hF1⟩ := hRr.cB
    by_cases hlt : i < S.length
    · have hlt' : (i : Int) < S.length := by omega
      have b3 : (0 : Int) ≤ i := by omega
      obtain ⟨f, hf⟩ : ∃ f, S[i]? = some f := ⟨_, List.getElem?_eq_getElem hlt⟩
      have HRD := Lib.hid (read_in i 0 256 f wr (HP.out.kept hm (fun q => q) (fun q => q)) ⟨by omega, by omega, by omega, by omega⟩ (by rw [Int.toNat_natCast]; exact hf))
      have hl := (HP.out.ok f (List.mem_of_getElem? hf)).1
      have HM := Lib.hid hm
      have HF := Lib.hid hf
      clear hm hf hRr
      go_wp2_with fail
      refine HRD.out.mono ?_
      rintro e w6 ⟨rfl, hm6, _, hg6⟩
      rw [show (f.bytes.drop (0 : Int).toNat).take (256 : Int).toNat = f.bytes from List.take_of_length_le (by rw [show (f.bytes.drop (0 : Int).toNat) = f.bytes from rfl, hl]; exact Nat.le_refl _)] at hg6
      have hR6 := HR.out.keptNo (HM.out.trans hm6)
      obtain ⟨cB6, hcB6, hB6⟩ := hR6.cB
      obtain ⟨rb, rc, hrc, hbl, hcR, hcx, _⟩ := hR6.cR HF.out
      have hv2 := conv_ref (c := rc) hR6 HF.out hcx
      have hv1 : ∀ q, (convert 49 9 (.slice (some ⟨wr.heap.size, 0, none⟩) 256 256)).run Tryz.prog (w6.drewN q) = .ok (.string (strOfNums f.bytes)) (w6.drewN q) :=
        fun q => conv_row (w := w6.drewN q) hg6 0 256 256 f.bytes (by rw [List.drop_zero, List.take_of_length_le (by omega)]) (by omega)
      have HM6 := Lib.hid (HM.out.trans hm6)
      clear hm6 hR6 hg6 hcx hbl hF1 hc1 hl
      go_wp2_with fail
      go_quiet (fail)
      go_wp2
      go_roundw
      case rel => exact ⟨i + 1, by omega, by go_num, HM6.out.drewN _⟩
      case measure => simp [intOf]; omega
    · obtain rfl : i = S.length := by omega
      clear hRr
      go_wp2
      go_ret
      exact ⟨rfl, hm⟩

end Go.Proofs.YtlbebneblmgdcaaGreatDoor
