/- tenementlaw04.PteZero: the walk. -/
import Derived.Test.YthfkpbfapkpnfaaPhysRW
import Derived.WalkMore
namespace Go.Proofs.Ythfkpbfapkpnfaa
open Go.RowKit
set_option maxRecDepth 100000

theorem pat_none {p : Option Addr} (i k : Int) (w : World) (h : NoM w p) :
    Calls Try.prog 40 #[.pointer p, .int .i64 i, .int .i64 k] w fun e w' => e = .returned (.tuple #[.int .u32 0, .int .i64 7]) ∧ w = w' := by
  go_enter Try.func40, Try.ntmps40
  go_wp2_with (go_at_call 55; refine (size_none _ h).mono ?_; rintro e w' ⟨rfl, rfl⟩)
  go_ret2
  exact ⟨rfl, rfl⟩

theorem pwalk_none {p : Option Addr} (r : Int) (va : Int) (b : Bool) (w : World) (h : NoM w p) :
    Calls Try.prog 42 #[.pointer p, .int .i64 r, .int .u32 va, .bool b] w fun e w' => e = .returned (.tuple #[.int .i64 0, .int .i64 0, .int .i64 7]) ∧ Mod No w w' := by
  go_enter Try.func42, Try.ntmps42
  go_wp2
  go_step3
  go_wp2_with (go_at_call 55; refine (size_none _ (by first | exact h | exact h.alloc _ | exact (h.alloc _).alloc _)).mono ?_; rintro e w' ⟨rfl, rfl⟩)
  rw [Exit.noGoto_ret]
  exact bodyPost_ret (v := .tuple #[.int .i64 0, .int .i64 0, .int .i64 7]) (by simp [results, Try.results42, go_sem]) rfl ⟨rfl, ((Mod.refl No w).alloc _).alloc _⟩

theorem pplaces_none {p : Option Addr} (r : Int) (va : Int) (n : Int) (b : Bool) (w : World) (h : NoM w p) :
    Calls Try.prog 66 #[.pointer p, .int .i64 r, .int .u32 va, .int .i64 n, .bool b] w fun e w' => e = .returned (.tuple #[.slice none 0 0, .int .i64 7]) ∧ Mod No w w' := by
  go_enter Try.func66, Try.ntmps66
  go_wp2
  go_step3
  go_wp2_with (go_at_call 55; refine (size_none _ h).mono ?_; rintro e w' ⟨rfl, rfl⟩)
  rw [Exit.noGoto_ret]
  go_ret2
  exact ⟨rfl, Mod.refl _ _⟩

theorem pfetch_none {p : Option Addr} (r : Int) (va : Int) (n : Int) (w : World) (h : NoM w p) :
    Calls Try.prog 44 #[.pointer p, .int .i64 r, .int .u32 va, .int .i64 n] w fun e w' => e = .returned (.tuple #[.slice none 0 0, .int .i64 7]) ∧ Mod No w w' := by
  go_enter Try.func44, Try.ntmps44
  go_wp2_with (go_at_call 66; refine (pplaces_none _ _ _ _ _ h).mono ?_; rintro e w' ⟨rfl, hm⟩)
  go_ret2
  exact ⟨rfl, hm⟩

theorem pstore_none {p : Option Addr} (r : Int) (va : Int) (q : Option Addr) (n c : Nat) (w : World) (h : NoM w p) :
    Calls Try.prog 45 #[.pointer p, .int .i64 r, .int .u32 va, .slice q n c] w fun e w' => e = .returned (.int .i64 7) ∧ Mod No w w' := by
  go_enter Try.func45, Try.ntmps45
  go_wp2_with (go_at_call 66; refine (pplaces_none _ _ _ _ _ h).mono ?_; rintro e w' ⟨rfl, hm⟩)
  go_ret
  exact ⟨rfl, hm⟩

theorem unmade_none (w : World) : NoM (w.alloc (.cells #[.bool false, .slice none 0 0] 68)) (some ⟨w.heap.size, 0, none⟩) :=
  .inr ⟨_, rfl, row_cell (l := [.bool false, .slice none 0 0]) (heap_alloc_new w (.cells #[.bool false, .slice none 0 0] 68)) 0⟩

set_option maxHeartbeats 4000000 in
theorem pzero_any (r va n : Int) (w : World) :
    Calls Try.prog 13 #[.int .i64 r, .int .u32 va, .int .i64 n] w fun e w' => e = .returned (.bool true) ∧ Mod No w w' := by
  have H0 : Hid (∀ w, NoM w none) := fun _ => .inl rfl
  go_enter Try.func13, Try.ntmps13
  go_wp2_with fail
  refine (pat_none _ _ _ (H0.out _)).mono ?_
  rintro e w2 ⟨rfl, rfl⟩
  go_wp2_with fail
  refine (pwalk_none _ _ _ _ (unmade_none w)).mono ?_
  rintro e w3 ⟨rfl, hm3⟩
  have hm13 := ((Mod.refl No w).alloc _).trans hm3
  clear hm3
  go_wp2_with fail
  refine (pfetch_none _ _ _ _ (H0.out _)).mono ?_
  rintro e w4 ⟨rfl, hm4⟩
  have hm14 := hm13.trans hm4
  clear hm4 hm13
  go_wp2_with fail
  refine (pstore_none _ _ _ _ _ _ (unmade_none w4)).mono ?_
  rintro e w5 ⟨rfl, hm5⟩
  have hm15 := (hm14.alloc _).trans hm5
  clear hm14 hm5
  go_wp2
  go_ret
  exact ⟨rfl, hm15⟩

end Go.Proofs.Ythfkpbfapkpnfaa
