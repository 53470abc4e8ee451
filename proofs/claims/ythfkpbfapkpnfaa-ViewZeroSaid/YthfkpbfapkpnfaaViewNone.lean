/- view: where there is no view. -/
import Derived.Test.YthfkpbfapkpnfaaPhysRW
namespace Go.Proofs.Ythfkpbfapkpnfaa
open Go.RowKit
set_option maxRecDepth 100000

/-- No view: nil, or one that no call made. -/
def NoV (w : World) (p : Option Addr) : Prop := p = none ∨ ∃ b, p = some ⟨b, 0, none⟩ ∧ w.cell? ⟨b, 0, none⟩ = some (.pointer none)

theorem NoV.kept {P : Nat → Prop} {w w' : World} {p : Option Addr} (h : NoV w p) (hm : Mod P w w') (hn : ∀ b, p = some ⟨b, 0, none⟩ → ¬ P b) : NoV w' p := by
  rcases h with h | ⟨b, e, h⟩
  · exact .inl h
  · have hb : b < w.heap.size := World.block_lt_of_cell? w _ h
    exact .inr ⟨b, e, (World.cell?_of_block (hm.block b hb (hn b e))).trans h⟩
theorem NoV.alloc {w : World} {p : Option Addr} (h : NoV w p) (o : Obj) : NoV (w.alloc o) p := h.kept ((Mod.refl No w).alloc o) (fun _ _ q => q)

theorem vnone_none (p : Option Addr) (w : World) (h : NoV w p) :
    Calls Try.prog 58 #[.pointer p] w fun e w' => e = .returned (.bool true) ∧ w = w' := by
  rcases h with rfl | ⟨b, rfl, h⟩
  all_goals
    go_enter Try.func58, Try.ntmps58
    go_wp2
    go_ret
    exact ⟨rfl, rfl⟩

theorem vread_none {p : Option Addr} (i off n : Int) (w : World) (h : NoV w p) :
    Calls Try.prog 32 #[.pointer p, .int .i64 i, .int .i64 off, .int .i64 n] w fun e w' => e = .returned (.tuple #[.slice none 0 0, .int .i64 7]) ∧ w = w' := by
  go_enter Try.func32, Try.ntmps32
  go_wp2_with (go_at_call 58; refine (vnone_none p _ h).mono ?_; rintro e w' ⟨rfl, rfl⟩)
  go_ret2
  exact ⟨rfl, rfl⟩

theorem vword_none {p : Option Addr} (i off : Int) (w : World) (h : NoV w p) :
    Calls Try.prog 33 #[.pointer p, .int .i64 i, .int .i64 off] w fun e w' => e = .returned (.tuple #[.int .u16 0, .int .i64 7]) ∧ w = w' := by
  go_enter Try.func33, Try.ntmps33
  go_wp2_with (go_at_call 32; refine (vread_none _ _ _ _ h).mono ?_; rintro e w' ⟨rfl, rfl⟩)
  go_ret2
  exact ⟨rfl, rfl⟩

theorem vwrite_none {p : Option Addr} (i off : Int) (q : Option Addr) (n c : Nat) (w : World) (h : NoV w p) :
    Calls Try.prog 34 #[.pointer p, .int .i64 i, .int .i64 off, .slice q n c] w fun e w' => e = .returned (.int .i64 7) ∧ w = w' := by
  go_enter Try.func34, Try.ntmps34
  go_wp2_with (go_at_call 58; refine (vnone_none p _ h).mono ?_; rintro e w' ⟨rfl, rfl⟩)
  go_ret
  exact ⟨rfl, rfl⟩

theorem vreads_none {p : Option Addr} (w : World) (h : NoV w p) :
    Calls Try.prog 35 #[.pointer p] w fun e w' => e = .returned (.int .i64 0) ∧ w = w' := by
  go_enter Try.func35, Try.ntmps35
  go_wp2_with (go_at_call 58; refine (vnone_none p _ h).mono ?_; rintro e w' ⟨rfl, rfl⟩)
  go_ret
  exact ⟨rfl, rfl⟩

theorem vrest_none {p : Option Addr} (w : World) (h : NoV w p) :
    Calls Try.prog 36 #[.pointer p] w fun e w' => e = .returned (.int .i64 0) ∧ w = w' := by
  go_enter Try.func36, Try.ntmps36
  go_wp2_with (go_at_call 58; refine (vnone_none p _ h).mono ?_; rintro e w' ⟨rfl, rfl⟩)
  go_ret
  exact ⟨rfl, rfl⟩

theorem vmachine_none {p : Option Addr} (w : World) (h : NoV w p) :
    Calls Try.prog 37 #[.pointer p] w fun e w' => e = .returned (.pointer none) ∧ w = w' := by
  go_enter Try.func37, Try.ntmps37
  go_wp2_with (go_at_call 58; refine (vnone_none p _ h).mono ?_; rintro e w' ⟨rfl, rfl⟩)
  go_ret
  exact ⟨rfl, rfl⟩

theorem vnew_none {p : Option Addr} (q : Option Addr) (n c : Nat) (w : World) (h : NoM w p) :
    Calls Try.prog 31 #[.pointer p, .slice q n c] w fun e w' => e = .returned (.tuple #[.pointer none, .int .i64 7]) ∧ w = w' := by
  go_enter Try.func31, Try.ntmps31
  go_wp2_with (go_at_call 55; refine (size_none _ h).mono ?_; rintro e w' ⟨rfl, rfl⟩)
  go_ret2
  exact ⟨rfl, rfl⟩

end Go.Proofs.Ythfkpbfapkpnfaa
