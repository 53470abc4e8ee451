/- tenementlaw01.PhysZero: the walk. -/
import Derived.Test.YthfkpbfapkpnfabPhysZero
import Derived.Test.YthfkpbfapkpnfabPhysCopy
import Derived.Test.YthfkpbfapkpnfabPhysAlloc
import Derived.Test.YthfkpbfapkpnfabPhysPut
namespace Go.Proofs.Ythfkpbfapkpnfab
open Go.RowKit
set_option maxRecDepth 100000

set_option maxHeartbeats 4000000 in
theorem zero_any (a b c : Int) (w : World) :
    Calls Try.prog 3 #[.int .i64 a, .int .i64 b, .int .i64 c] w fun e w' => e = .returned (.bool true) ∧ Mod No w w' := by
  have hN : NoM (w.alloc (.cells #[.bool false, .slice none 0 0] 25)) (some ⟨w.heap.size, 0, none⟩) :=
    .inr ⟨_, rfl, row_cell (l := [.bool false, .slice none 0 0]) (heap_alloc_new w (.cells #[.bool false, .slice none 0 0] 25)) 0⟩
  have h0 : ∀ w, NoM w none := fun _ => .inl rfl
  have H0 := Lib.hid h0; clear h0
  have hm1 := (Mod.refl No w).alloc (.cells #[.bool false, .slice none 0 0] 25)
  go_enter Try.func3, Try.ntmps3
  go_wp2_with fail
  generalize w.heap.size = Bn at *
  generalize (w.alloc (.cells #[.bool false, .slice none 0 0] 25)) = w1 at *
  refine (alloc_none a _ (H0.out _)).mono ?_
  rintro e w2 ⟨rfl, hm2⟩
  have hN2 := hN.kept hm2 (fun _ _ q => q)
  have hm12 := hm1.trans hm2
  clear hN hm1 hm2
  go_wp2_with fail
  refine (frame_none a _ hN2).mono ?_
  rintro e w3 ⟨rfl, hm3⟩
  have hN3 := hN2.kept hm3 (fun _ _ q => q)
  have hm13 := hm12.trans hm3
  clear hN2 hm12 hm3
  go_wp2_with fail
  have hN4 := hN3.alloc (.cells #[.int .i64 0, .int .i64 0, .int .i64 0, .int .i64 0] 30)
  have hm14 := hm13.alloc (.cells #[.int .i64 0, .int .i64 0, .int .i64 0, .int .i64 0] 30)
  generalize (w3.alloc (.cells #[.int .i64 0, .int .i64 0, .int .i64 0, .int .i64 0] 30)) = w4 at *
  clear hN3 hm13
  refine (read_none a b c _ (H0.out _)).mono ?_
  rintro e w5 ⟨rfl, rfl⟩
  go_wp2_with (first
    | (go_at_call 18; refine (free_none a _ hN4).mono ?_; rintro e w6 ⟨rfl, rfl⟩)
    | (go_at_call 19; refine (give_none a b _ (H0.out _)).mono ?_; rintro e w6 ⟨rfl, rfl⟩)
    | (go_at_call 20; refine (get_none a b c _ hN4).mono ?_; rintro e w6 ⟨rfl, rfl⟩)
    | (go_at_call 21; refine (put_none a c _ (H0.out _)).mono ?_; rintro e w6 ⟨rfl, rfl⟩)
    | (go_at_call 22; refine (write_none a b _ _ _ _ hN4).mono ?_; rintro e w6 ⟨rfl, rfl⟩))
  refine (copy_none _ (H0.out _)).mono ?_
  rintro e w6 ⟨rfl, rfl⟩
  go_wp2_with fail
  refine (copy_none _ hN4).mono ?_
  rintro e w6 ⟨rfl, rfl⟩
  go_wp2_with fail
  refine (size_none _ (H0.out _)).mono ?_
  rintro e w6 ⟨rfl, rfl⟩
  go_wp2_with fail
  refine (left_none _ hN4).mono ?_
  rintro e w7 ⟨rfl, hm7⟩
  have hm17 := hm14.trans hm7
  clear hN4 hm14 hm7
  go_wp2_with fail
  refine (owned_none a _ (H0.out _)).mono ?_
  rintro e w8 ⟨rfl, hm8⟩
  have hm18 := hm17.trans hm8
  clear hm17 hm8
  go_wp2
  go_ret
  exact ⟨rfl, hm18⟩

end Go.Proofs.Ythfkpbfapkpnfab
