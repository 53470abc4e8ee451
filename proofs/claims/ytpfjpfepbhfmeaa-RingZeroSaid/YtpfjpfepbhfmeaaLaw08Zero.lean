/- tenementlaw08.RingZero: ends that nobody made; the walk. -/
import Derived.Test.YtpfjpfepbhfmeaaRingBk
namespace Go.Proofs.Ytpfjpfepbhfmeaa
open Go.RowKit
set_option maxRecDepth 100000

/-- No view: nil, or one that no call made. -/
def NoW (w : World) (p : Option Addr) : Prop := p = none ∨ ∃ b, p = some ⟨b, 0, none⟩ ∧ w.cell? ⟨b, 0, none⟩ = some (.pointer none)
theorem wnone_none (p : Option Addr) (w : World) (h : NoW w p) :
    Calls Try.prog 91 #[.pointer p] w fun e w' => e = .returned (.bool true) ∧ w = w' := by
  rcases h with rfl | ⟨b, rfl, h⟩
  all_goals
    go_enter Try.func91, Try.ntmps91
    go_wp2
    go_ret
    exact ⟨rfl, rfl⟩
theorem wmachine_none {p : Option Addr} (w : World) (h : NoW w p) :
    Calls Try.prog 29 #[.pointer p] w fun e w' => e = .returned (.pointer none) ∧ w = w' := by
  go_enter Try.func29, Try.ntmps29
  go_wp2_with (go_at_call 91; refine (wnone_none p _ h).mono ?_; rintro e w' ⟨rfl, rfl⟩)
  go_ret
  exact ⟨rfl, rfl⟩
theorem unmade_no {p : Option Addr} (w : World) (h : NoW w p) :
    Calls Try.prog 100 #[.pointer p] w fun e w' => e = .returned (.bool true) ∧ w = w' := by
  go_enter Try.func100, Try.ntmps100
  go_wp2_with (go_at_call 29; refine (wmachine_none _ h).mono ?_; rintro e w' ⟨rfl, rfl⟩)
  go_ret
  exact ⟨rfl, rfl⟩

/-- No back end, no front end (NoM: nil, or the first cell is false). -/
theorem bnone_no (p : Option Addr) (w : World) (h : NoM w p) :
    Calls Try.prog 99 #[.pointer p] w fun e w' => e = .returned (.bool true) ∧ w = w' := by
  rcases h with rfl | ⟨b, rfl, h⟩
  all_goals
    go_enter Try.func99, Try.ntmps99
    go_wp2
    go_ret
    exact ⟨rfl, rfl⟩
theorem fnone_no (p : Option Addr) (w : World) (h : NoM w p) :
    Calls Try.prog 109 #[.pointer p] w fun e w' => e = .returned (.bool true) ∧ w = w' := by
  rcases h with rfl | ⟨b, rfl, h⟩
  all_goals
    go_enter Try.func109, Try.ntmps109
    go_wp2
    go_ret
    exact ⟨rfl, rfl⟩

/-- An end that cannot work: no end, or an end without a view. -/
def Idle (w : World) (p v : Option Addr) : Prop := NoM w p ∨ ∃ b k, p = some ⟨b, 0, none⟩ ∧ BkM w b k ∧ NoW w v
theorem look_no {p v : Option Addr} (w : World) (h : Idle w p v) :
    Calls Try.prog 49 #[.pointer p, .pointer v] w fun e w' => e = .returned (.tuple #[.int .i64 0, .bool false, .int .i64 7]) ∧ w = w' := by
  rcases h with h | ⟨b, k, rfl, h, hv⟩
  · go_enter Try.func49, Try.ntmps49
    go_wp2_with (go_at_call 99; refine (bnone_no _ _ h).mono ?_; rintro e w' ⟨rfl, rfl⟩)
    go_ret3
    exact ⟨rfl, rfl⟩
  · have HN := Lib.hid (bnone_made w h)
    clear h
    go_enter Try.func49, Try.ntmps49
    go_wp2_with (first
      | (go_at_call 99; refine HN.out.mono ?_; rintro e w' ⟨rfl, rfl⟩)
      | (go_at_call 100; refine (unmade_no _ hv).mono ?_; rintro e w' ⟨rfl, rfl⟩))
    go_ret3
    exact ⟨rfl, rfl⟩
theorem take_no {p v : Option Addr} (w : World) (h : Idle w p v) :
    Calls Try.prog 50 #[.pointer p, .pointer v] w fun e w' => e = .returned (.tuple #[.slice none 0 0, .int .i64 7]) ∧ w = w' := by
  rcases h with h | ⟨b, k, rfl, h, hv⟩
  · go_enter Try.func50, Try.ntmps50
    go_wp2_with (go_at_call 99; refine (bnone_no _ _ h).mono ?_; rintro e w' ⟨rfl, rfl⟩)
    go_ret2
    exact ⟨rfl, rfl⟩
  · have HN := Lib.hid (bnone_made w h)
    clear h
    go_enter Try.func50, Try.ntmps50
    go_wp2_with (first
      | (go_at_call 99; refine HN.out.mono ?_; rintro e w' ⟨rfl, rfl⟩)
      | (go_at_call 100; refine (unmade_no _ hv).mono ?_; rintro e w' ⟨rfl, rfl⟩))
    go_ret2
    exact ⟨rfl, rfl⟩
theorem NoW.kept {w w' : World} {p : Option Addr} (h : NoW w p) (hm : Mod No w w') : NoW w' p := by
  rcases h with h | ⟨b, e, h⟩
  · exact .inl h
  · have hb : b < w.heap.size := World.block_lt_of_cell? w _ h
    exact .inr ⟨b, e, (World.cell?_of_block (hm.block b hb (fun q => q))).trans h⟩
theorem Idle.kept {w w' : World} {p v : Option Addr} (h : Idle w p v) (hm : Mod No w w') : Idle w' p v := by
  rcases h with h | ⟨b, k, e, h, hv⟩
  · exact .inl (h.kept hm (fun _ _ q => q))
  · exact .inr ⟨b, k, e, h.no hm, hv.kept hm⟩
theorem ans_no {p v q : Option Addr} {n c : Nat} (w : World) (h : Idle w p v) :
    Calls Try.prog 52 #[.pointer p, .pointer v, .slice q n c] w fun e w' => e = .returned (.int .i64 7) ∧ Mod No w w' := by
  have HQ := Lib.hid (slotR_any 144 0 w (by omega) (by omega))
  have H : Hid (∀ w', Mod No w w' → Idle w' p v) := fun w' hm => h.kept hm
  clear h
  go_enter Try.func52, Try.ntmps52
  go_wp2_with fail
  refine HQ.out.mono ?_
  rintro e w1 ⟨rfl, hm⟩
  rcases H.out _ hm with h | ⟨b, k, rfl, h, hv⟩
  · clear HQ H
    go_wp2_with (go_at_call 99; refine (bnone_no _ _ h).mono ?_; rintro e w' ⟨rfl, rfl⟩)
    go_ret
    exact ⟨rfl, hm⟩
  · have HN := Lib.hid (bnone_made w1 h)
    clear h HQ H
    go_wp2_with (first
      | (go_at_call 99; refine HN.out.mono ?_; rintro e w' ⟨rfl, rfl⟩)
      | (go_at_call 100; refine (unmade_no _ hv).mono ?_; rintro e w' ⟨rfl, rfl⟩))
    go_ret
    exact ⟨rfl, hm⟩
theorem taken_no {p : Option Addr} (w : World) (h : NoM w p) :
    Calls Try.prog 53 #[.pointer p] w fun e w' => e = .returned (.int .u16 0) ∧ w = w' := by
  go_enter Try.func53, Try.ntmps53
  go_wp2_with (go_at_call 99; refine (bnone_no _ _ h).mono ?_; rintro e w' ⟨rfl, rfl⟩)
  go_ret
  exact ⟨rfl, rfl⟩
theorem laid_no {p : Option Addr} (w : World) (h : NoM w p) :
    Calls Try.prog 54 #[.pointer p] w fun e w' => e = .returned (.int .u16 0) ∧ w = w' := by
  go_enter Try.func54, Try.ntmps54
  go_wp2_with (go_at_call 99; refine (bnone_no _ _ h).mono ?_; rintro e w' ⟨rfl, rfl⟩)
  go_ret
  exact ⟨rfl, rfl⟩
theorem waiting_no {p : Option Addr} (w : World) (h : NoM w p) :
    Calls Try.prog 58 #[.pointer p] w fun e w' => e = .returned (.int .i64 0) ∧ w = w' := by
  go_enter Try.func58, Try.ntmps58
  go_wp2_with (go_at_call 99; refine (bnone_no _ _ h).mono ?_; rintro e w' ⟨rfl, rfl⟩)
  go_ret
  exact ⟨rfl, rfl⟩
theorem bmfn_no {p : Option Addr} (w : World) (h : NoM w p) :
    Calls Try.prog 60 #[.pointer p] w fun e w' => e = .returned (.int .i64 (-1)) ∧ w = w' := by
  go_enter Try.func60, Try.ntmps60
  go_wp2_with (go_at_call 99; refine (bnone_no _ _ h).mono ?_; rintro e w' ⟨rfl, rfl⟩)
  go_ret
  exact ⟨rfl, rfl⟩
theorem room_no {p : Option Addr} (w : World) (h : NoM w p) :
    Calls Try.prog 64 #[.pointer p] w fun e w' => e = .returned (.int .i64 0) ∧ w = w' := by
  go_enter Try.func64, Try.ntmps64
  go_wp2_with (go_at_call 109; refine (fnone_no _ _ h).mono ?_; rintro e w' ⟨rfl, rfl⟩)
  go_ret
  exact ⟨rfl, rfl⟩
theorem get_no {p : Option Addr} (w : World) (h : NoM w p) :
    Calls Try.prog 61 #[.pointer p] w fun e w' => e = .returned (.tuple #[.slice none 0 0, .int .i64 7]) ∧ w = w' := by
  go_enter Try.func61, Try.ntmps61
  go_wp2_with (go_at_call 109; refine (fnone_no _ _ h).mono ?_; rintro e w' ⟨rfl, rfl⟩)
  go_ret2
  exact ⟨rfl, rfl⟩
theorem put_no {p q : Option Addr} {n c : Nat} (w : World) (h : NoM w p) :
    Calls Try.prog 63 #[.pointer p, .slice q n c] w fun e w' => e = .returned (.int .i64 7) ∧ w = w' := by
  go_enter Try.func63, Try.ntmps63
  go_wp2_with (go_at_call 109; refine (fnone_no _ _ h).mono ?_; rintro e w' ⟨rfl, rfl⟩)
  go_ret
  exact ⟨rfl, rfl⟩
theorem open_no {p : Option Addr} (i r : Int) (w : World)
    (hf : Calls Try.prog 82 #[.pointer p, .int .i64 i] w fun e w' => e = .returned (.tuple #[.agg #[.int .i64 0, .int .i64 0, .int .i64 0, .int .i64 0], .int .i64 r]) ∧ Mod No w w') (hr : r ≠ 0) :
    Calls Try.prog 62 #[.pointer p, .int .i64 i] w fun e w' => e = .returned (.tuple #[.pointer none, .int .i64 r]) ∧ Mod No w w' := by
  have d1 : (r == 0) = false := beq_eq_false_iff_ne.2 hr
  have HF := Lib.hid hf
  clear hf hr
  go_enter Try.func62, Try.ntmps62
  go_wp2_with fail
  refine HF.out.mono ?_
  rintro e w1 ⟨rfl, hm⟩
  go_wp2
  go_ret2
  exact ⟨rfl, hm.alloc _⟩

end Go.Proofs.Ytpfjpfepbhfmeaa
