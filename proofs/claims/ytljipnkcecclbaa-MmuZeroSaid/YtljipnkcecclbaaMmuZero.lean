/- tenementlaw05.MmuZero: page tables that nobody made; the walk. -/
import Derived.Test.YtljipnkcecclbaaModBase
import Derived.Lib.Hide
import Derived.Deep.DeepCutAuto
namespace Go.Proofs.Ytljipnkcecclbaa
open Go.RowKit
set_option maxRecDepth 100000

/-- No page tables. -/
def NoX (w : World) (p : Option Addr) : Prop := p = none ∨ ∃ b, p = some ⟨b, 0, none⟩ ∧ w.cell? ⟨b, 0, none⟩ = some (.pointer none)
/-- No machine. -/
def NoP (w : World) (p : Option Addr) : Prop := p = none ∨ ∃ b, p = some ⟨b, 0, none⟩ ∧ w.cell? ⟨b, 0, none⟩ = some (.bool false)

theorem xnone_yes {p : Option Addr} (w : World) (h : NoX w p) : Calls Try.prog 13 #[.pointer p] w fun e w' => e = .returned (.bool true) ∧ w = w' := by
  rcases h with rfl | ⟨b, rfl, h⟩
  all_goals
    go_enter Try.func13, Try.ntmps13
    go_wp2
    go_ret
    exact ⟨rfl, rfl⟩
theorem pnone_yes {p : Option Addr} (w : World) (h : NoP w p) : Calls Try.prog 33 #[.pointer p] w fun e w' => e = .returned (.bool true) ∧ w = w' := by
  rcases h with rfl | ⟨b, rfl, h⟩
  all_goals
    go_enter Try.func33, Try.ntmps33
    go_wp2
    go_ret
    exact ⟨rfl, rfl⟩
theorem psize_no {p : Option Addr} (w : World) (h : NoP w p) : Calls Try.prog 15 #[.pointer p] w fun e w' => e = .returned (.int .i64 0) ∧ w = w' := by
  go_enter Try.func15, Try.ntmps15
  go_wp2_with (go_at_call 33; refine (pnone_yes _ h).mono ?_; rintro e w' ⟨rfl, rfl⟩)
  go_ret
  exact ⟨rfl, rfl⟩
theorem xupdate_no {p q : Option Addr} {dom : Int} {n c : Nat} (w : World) (h : NoX w p) : Calls Try.prog 4 #[.pointer p, .int .i64 dom, .slice q n c] w fun e w' => e = .returned (.tuple #[.int .i64 0, .int .i64 7]) ∧ w = w' := by
  go_enter Try.func4, Try.ntmps4
  go_wp2_with (go_at_call 13; refine (xnone_yes _ h).mono ?_; rintro e w' ⟨rfl, rfl⟩)
  go_ret2
  exact ⟨rfl, rfl⟩
theorem xpin_no {p : Option Addr} {dom a b : Int} (w : World) (h : NoX w p) : Calls Try.prog 6 #[.pointer p, .int .i64 dom, .int .i64 a, .int .i64 b] w fun e w' => e = .returned (.int .i64 7) ∧ w = w' := by
  go_enter Try.func6, Try.ntmps6
  go_wp2_with (go_at_call 13; refine (xnone_yes _ h).mono ?_; rintro e w' ⟨rfl, rfl⟩)
  go_ret
  exact ⟨rfl, rfl⟩
theorem xunpin_no {p : Option Addr} {dom a : Int} (w : World) (h : NoX w p) : Calls Try.prog 7 #[.pointer p, .int .i64 dom, .int .i64 a] w fun e w' => e = .returned (.int .i64 7) ∧ w = w' := by
  go_enter Try.func7, Try.ntmps7
  go_wp2_with (go_at_call 13; refine (xnone_yes _ h).mono ?_; rintro e w' ⟨rfl, rfl⟩)
  go_ret
  exact ⟨rfl, rfl⟩
theorem xbase_no {p : Option Addr} {dom a : Int} (w : World) (h : NoX w p) : Calls Try.prog 8 #[.pointer p, .int .i64 dom, .int .i64 a] w fun e w' => e = .returned (.int .i64 7) ∧ w = w' := by
  go_enter Try.func8, Try.ntmps8
  go_wp2_with (go_at_call 13; refine (xnone_yes _ h).mono ?_; rintro e w' ⟨rfl, rfl⟩)
  go_ret
  exact ⟨rfl, rfl⟩
theorem xdrop_no {p : Option Addr} {dom : Int} (w : World) (h : NoX w p) : Calls Try.prog 9 #[.pointer p, .int .i64 dom] w fun e w' => e = .returned (.int .i64 7) ∧ w = w' := by
  go_enter Try.func9, Try.ntmps9
  go_wp2_with (go_at_call 13; refine (xnone_yes _ h).mono ?_; rintro e w' ⟨rfl, rfl⟩)
  go_ret
  exact ⟨rfl, rfl⟩
theorem xroot_no {p : Option Addr} {dom : Int} (w : World) (h : NoX w p) : Calls Try.prog 10 #[.pointer p, .int .i64 dom] w fun e w' => e = .returned (.int .i64 (-1)) ∧ w = w' := by
  go_enter Try.func10, Try.ntmps10
  go_wp2_with (go_at_call 13; refine (xnone_yes _ h).mono ?_; rintro e w' ⟨rfl, rfl⟩)
  go_ret
  exact ⟨rfl, rfl⟩
theorem xpins_no {p : Option Addr} {dom : Int} (w : World) (h : NoX w p) : Calls Try.prog 11 #[.pointer p, .int .i64 dom] w fun e w' => e = .returned (.slice none 0 0) ∧ w = w' := by
  go_enter Try.func11, Try.ntmps11
  go_wp2_with (go_at_call 13; refine (xnone_yes _ h).mono ?_; rintro e w' ⟨rfl, rfl⟩)
  go_ret
  exact ⟨rfl, rfl⟩
theorem xmachine_no {p : Option Addr} (w : World) (h : NoX w p) : Calls Try.prog 12 #[.pointer p] w fun e w' => e = .returned (.pointer none) ∧ w = w' := by
  go_enter Try.func12, Try.ntmps12
  go_wp2_with (go_at_call 13; refine (xnone_yes _ h).mono ?_; rintro e w' ⟨rfl, rfl⟩)
  go_ret
  exact ⟨rfl, rfl⟩
theorem NoP.kept {w w' : World} {p : Option Addr} (h : NoP w p) (hm : Mod No w w') : NoP w' p :=
  h.imp id (fun ⟨b, e, h⟩ => ⟨b, e, (World.cell?_of_block (w := w) (hm.block b (World.block_lt_of_cell? w _ h) (fun q => q))).trans h⟩)
theorem NoX.kept {w w' : World} {p : Option Addr} (h : NoX w p) (hm : Mod No w w') : NoX w' p :=
  h.imp id (fun ⟨b, e, h⟩ => ⟨b, e, (World.cell?_of_block (w := w) (hm.block b (World.block_lt_of_cell? w _ h) (fun q => q))).trans h⟩)
theorem xnew_no {p : Option Addr} (w : World) (h : NoP w p) : Calls Try.prog 5 #[.pointer p] w fun e w' => e = .returned (.pointer none) ∧ Mod No w w' := by
  have hm := fun o => (Mod.refl No w).alloc o
  have HS := Lib.hid (fun o => psize_no (w.alloc o) (h.kept (hm o)))
  go_enter Try.func5, Try.ntmps5
  go_wp2_with (go_at_call 15; refine (HS.out _).mono ?_; rintro e w' ⟨rfl, rfl⟩)
  go_ret
  exact ⟨rfl, hm _⟩

set_option maxHeartbeats 8000000 in
theorem mmuzero_any (dom a b : Int) (w : World) : Calls Try.prog 3 #[.int .i64 dom, .int .i64 a, .int .i64 b] w fun e w' => e = .returned (.bool true) ∧ Mod No w w' := by
  go_enter Try.func3, Try.ntmps3
  go_wp2_with fail
  refine (xupdate_no _ (.inl rfl)).mono ?_
  rintro e w2 ⟨rfl, hw2⟩
  have hm2 : Mod No w w2 := by rw [← hw2]; exact ((Mod.refl No w).alloc _).alloc _
  have hy2 : NoX w2 (some ⟨w.heap.size, 0, none⟩) := by
    rw [← hw2]
    exact .inr ⟨_, rfl, row_cell (blk_alloc (heap_alloc_new w _) _) 0⟩
  have HM2 := Lib.hid hm2
  have HY2 := Lib.hid hy2
  clear hw2 hm2 hy2
  go_wp2_with fail
  refine (xnew_no _ (.inl rfl)).mono ?_
  rintro e w3 ⟨rfl, hm3⟩
  have HM3 := Lib.hid (HM2.out.trans hm3)
  have HY3 := Lib.hid (HY2.out.kept hm3)
  clear hm3
  go_wp2_with fail
  refine (xnew_no _ (.inr ⟨_, rfl, row_cell (heap_alloc_new w3 _) 0⟩)).mono ?_
  rintro e w4 ⟨rfl, hm4⟩
  have HM4 := Lib.hid (HM3.out.trans (((Mod.refl No w3).alloc _).trans hm4))
  have HY4 := Lib.hid (HY3.out.kept (((Mod.refl No w3).alloc _).trans hm4))
  clear hm4
  go_wp2_with (first
    | (go_at_call 6; refine (xpin_no _ (.inl rfl)).mono ?_; rintro e w' ⟨rfl, rfl⟩)
    | (go_at_call 7; refine (xunpin_no _ HY4.out).mono ?_; rintro e w' ⟨rfl, rfl⟩)
    | (go_at_call 8; refine (xbase_no _ (.inl rfl)).mono ?_; rintro e w' ⟨rfl, rfl⟩)
    | (go_at_call 9; refine (xdrop_no _ HY4.out).mono ?_; rintro e w' ⟨rfl, rfl⟩)
    | (go_at_call 10; refine (xroot_no _ (.inl rfl)).mono ?_; rintro e w' ⟨rfl, rfl⟩)
    | (go_at_call 11; refine (xpins_no _ HY4.out).mono ?_; rintro e w' ⟨rfl, rfl⟩)
    | (go_at_call 12; refine (xmachine_no _ (.inl rfl)).mono ?_; rintro e w' ⟨rfl, rfl⟩))
  go_ret
  exact ⟨rfl, HM4.out⟩

end Go.Proofs.Ytljipnkcecclbaa
