/- tenementlaw02.ViewZero: the walk. -/
import Derived.Test.YthfkpbfapkpnfaaViewNone
namespace Go.Proofs.Ythfkpbfapkpnfaa
open Go.RowKit
set_option maxRecDepth 100000

set_option maxHeartbeats 4000000 in
theorem vzero_any (a b : Int) (w : World) :
    Calls Try.prog 10 #[.int .i64 a, .int .i64 b] w fun e w' => e = .returned (.bool true) ∧ Mod No w w' := by
  have H0 : Hid (∀ w, NoM w none) := fun _ => .inl rfl
  have HV0 : Hid (∀ w, NoV w none) := fun _ => .inl rfl
  go_enter Try.func10, Try.ntmps10
  go_wp2_with fail
  refine (vnew_none _ _ _ _ (H0.out _)).mono ?_
  rintro e w2 ⟨rfl, rfl⟩
  go_wp2_with fail
  have hV : NoV ((w.alloc (.cells #[.pointer none, .map none, .int .i64 0] 63)).alloc (.cells #[.bool false, .slice none 0 0] 68)) (some ⟨w.heap.size, 0, none⟩) :=
    NoV.alloc (.inr ⟨_, rfl, row_cell (l := [.pointer none, .map none, .int .i64 0]) (heap_alloc_new w (.cells #[.pointer none, .map none, .int .i64 0] 63)) 0⟩) _
  have hM : NoM ((w.alloc (.cells #[.pointer none, .map none, .int .i64 0] 63)).alloc (.cells #[.bool false, .slice none 0 0] 68)) (some ⟨w.heap.size + 1, 0, none⟩) := by
    refine .inr ⟨_, rfl, ?_⟩
    have := row_cell (l := [.bool false, .slice none 0 0]) (heap_alloc_new (w.alloc (.cells #[.pointer none, .map none, .int .i64 0] 63)) (.cells #[.bool false, .slice none 0 0] 68)) 0
    rwa [World.size_alloc] at this
  have hm := ((Mod.refl No w).alloc (.cells #[.pointer none, .map none, .int .i64 0] 63)).alloc (.cells #[.bool false, .slice none 0 0] 68)
  generalize w.heap.size = Bn at *
  generalize ((w.alloc (.cells #[.pointer none, .map none, .int .i64 0] 63)).alloc (.cells #[.bool false, .slice none 0 0] 68)) = w1 at *
  have HM := Lib.hid hM; clear hM
  have HV := Lib.hid hV; clear hV
  refine (vnew_none _ _ _ _ HM.out).mono ?_
  rintro e w2 ⟨rfl, rfl⟩
  go_wp2_with fail
  refine (vread_none _ _ _ _ (HV0.out _)).mono ?_
  rintro e w2 ⟨rfl, rfl⟩
  go_wp2_with fail
  refine (vword_none _ _ _ HV.out).mono ?_
  rintro e w2 ⟨rfl, rfl⟩
  go_wp2_with fail
  refine (vwrite_none _ _ _ _ _ _ (HV0.out _)).mono ?_
  rintro e w2 ⟨rfl, rfl⟩
  go_wp2_with fail
  refine (vreads_none _ HV.out).mono ?_
  rintro e w2 ⟨rfl, rfl⟩
  go_wp2_with fail
  refine (vrest_none _ (HV0.out _)).mono ?_
  rintro e w2 ⟨rfl, rfl⟩
  go_wp2_with fail
  refine (vmachine_none _ HV.out).mono ?_
  rintro e w2 ⟨rfl, rfl⟩
  go_wp2
  go_ret
  exact ⟨rfl, hm⟩

end Go.Proofs.Ythfkpbfapkpnfaa
