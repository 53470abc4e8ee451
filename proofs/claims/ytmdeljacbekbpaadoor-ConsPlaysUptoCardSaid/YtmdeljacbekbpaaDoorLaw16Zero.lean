/- tenementlaw16.ConsZero: a console that nobody made; the walk. -/
import Derived.Test.YtmdeljacbekbpaaDoorViewG
namespace Go.Proofs.YtmdeljacbekbpaaDoor
open Go.RowKit
set_option maxRecDepth 100000

theorem wmachine_nil (w : World) :
    Calls Tryd.prog 39 #[.pointer none] w fun e w' => e = .returned (.pointer none) ∧ w = w' := by
  have HN : Hid (Calls Tryd.prog 60 #[.pointer none] w fun e w' => e = .returned (.bool true) ∧ w = w') := by
    show Calls _ _ _ _ _
    go_enter Tryd.func60, Tryd.ntmps60
    go_wp2
    go_ret
    exact ⟨rfl, rfl⟩
  go_enter Tryd.func39, Tryd.ntmps39
  go_wp2_with (go_at_call 60; refine HN.out.mono ?_; rintro e w' ⟨rfl, rfl⟩)
  go_ret
  exact ⟨rfl, rfl⟩

theorem cnone_no (p : Option Addr) (w : World) (h : NoM w p) :
    Calls Tryd.prog 38 #[.pointer p] w fun e w' => e = .returned (.bool true) ∧ w = w' := by
  rcases h with rfl | ⟨b, rfl, h⟩
  all_goals
    go_enter Tryd.func38, Tryd.ntmps38
    go_wp2
    go_ret
    exact ⟨rfl, rfl⟩
theorem cnone_yes (b : Nat) (w : World) (h : w.cell? ⟨b, 0, none⟩ = some (.bool true)) :
    Calls Tryd.prog 38 #[.pointer (some ⟨b, 0, none⟩)] w fun e w' => e = .returned (.bool false) ∧ w = w' := by
  go_enter Tryd.func38, Tryd.ntmps38
  go_wp2
  go_ret
  exact ⟨rfl, rfl⟩
theorem drain_no {p v : Option Addr} (w : World) (h : NoM w p) :
    Calls Tryd.prog 18 #[.pointer p, .pointer v] w fun e w' => e = .returned (.tuple #[.int .i64 0, .bool false, .int .i64 7]) ∧ w = w' := by
  go_enter Tryd.func18, Tryd.ntmps18
  go_wp2_with (go_at_call 38; refine (cnone_no _ _ h).mono ?_; rintro e w' ⟨rfl, rfl⟩)
  go_ret3
  exact ⟨rfl, rfl⟩
theorem feed_no {p v q : Option Addr} {n c : Nat} (w : World) (h : NoM w p) :
    Calls Tryd.prog 15 #[.pointer p, .pointer v, .slice q n c] w fun e w' => e = .returned (.tuple #[.int .i64 0, .int .i64 7]) ∧ w = w' := by
  go_enter Tryd.func15, Tryd.ntmps15
  go_wp2_with (go_at_call 38; refine (cnone_no _ _ h).mono ?_; rintro e w' ⟨rfl, rfl⟩)
  go_ret2
  exact ⟨rfl, rfl⟩
theorem feed_nil {b : Nat} {q : Option Addr} {n c : Nat} (w : World) (h : w.cell? ⟨b, 0, none⟩ = some (.bool true)) :
    Calls Tryd.prog 15 #[.pointer (some ⟨b, 0, none⟩), .pointer none, .slice q n c] w fun e w' => e = .returned (.tuple #[.int .i64 0, .int .i64 7]) ∧ w = w' := by
  go_enter Tryd.func15, Tryd.ntmps15
  go_wp2_with (first
    | (go_at_call 38; refine (cnone_yes _ _ h).mono ?_; rintro e w' ⟨rfl, rfl⟩)
    | (go_at_call 39; refine (wmachine_nil _).mono ?_; rintro e w' ⟨rfl, rfl⟩))
  go_ret2
  exact ⟨rfl, rfl⟩
theorem lines_no {p : Option Addr} (w : World) (h : NoM w p) :
    Calls Tryd.prog 20 #[.pointer p] w fun e w' => e = .returned (.slice none 0 0) ∧ w = w' := by
  go_enter Tryd.func20, Tryd.ntmps20
  go_wp2_with (go_at_call 38; refine (cnone_no _ _ h).mono ?_; rintro e w' ⟨rfl, rfl⟩)
  go_ret
  exact ⟨rfl, rfl⟩
theorem rest_no {p : Option Addr} (w : World) (h : NoM w p) :
    Calls Tryd.prog 21 #[.pointer p] w fun e w' => e = .returned (.string ⟨#[]⟩) ∧ w = w' := by
  go_enter Tryd.func21, Tryd.ntmps21
  go_wp2_with (go_at_call 38; refine (cnone_no _ _ h).mono ?_; rintro e w' ⟨rfl, rfl⟩)
  go_ret
  exact ⟨rfl, rfl⟩
theorem cmfn_no {p : Option Addr} (w : World) (h : NoM w p) :
    Calls Tryd.prog 23 #[.pointer p] w fun e w' => e = .returned (.int .i64 (-1)) ∧ w = w' := by
  go_enter Tryd.func23, Tryd.ntmps23
  go_wp2_with (go_at_call 38; refine (cnone_no _ _ h).mono ?_; rintro e w' ⟨rfl, rfl⟩)
  go_ret
  exact ⟨rfl, rfl⟩
theorem cnew_zero (w : World) : Calls Tryd.prog 13 #[.int .i64 0] w fun e w' => ∃ b, e = .returned (.tuple #[.pointer (some ⟨b, 0, none⟩), .int .i64 0]) ∧ Mod No w w' ∧ w'.cell? ⟨b, 0, none⟩ = some (.bool true) := by
  go_enter Tryd.func13, Tryd.ntmps13
  go_wp2
  go_ret2
  exact ⟨_, rfl, (Mod.refl No w).alloc _, row_cell (l := [.bool true, .int .i64 0, .int .i64 16, .int .i64 128, .int .i64 0, .int .i64 2, .int .u16 0, .int .i64 160, .int .i64 64, .int .i64 4, .int .i64 6, .int .u16 0, .slice none 0 0, .slice none 0 0]) (heap_alloc_new w _) 0⟩

set_option maxHeartbeats 8000000 in
theorem czero_any (q : Option Addr) (n c : Nat) (w : World) :
    Calls Tryd.prog 7 #[.slice q n c] w fun e w' => e = .returned (.bool true) ∧ Mod No w w' := by
  have HN0 : Hid (∀ w', NoM w' none) := fun _ => .inl rfl
  have hd : NoM (w.alloc (.cells #[.bool false, .int .i64 0, .int .i64 0, .int .i64 0, .int .i64 0, .int .i64 0, .int .u16 0, .int .i64 0, .int .i64 0, .int .i64 0, .int .i64 0, .int .u16 0, .slice none 0 0, .slice none 0 0] 59)) (some ⟨w.heap.size, 0, none⟩) :=
    .inr ⟨_, rfl, row_cell (l := [.bool false, .int .i64 0, .int .i64 0, .int .i64 0, .int .i64 0, .int .i64 0, .int .u16 0, .int .i64 0, .int .i64 0, .int .i64 0, .int .i64 0, .int .u16 0, .slice none 0 0, .slice none 0 0]) (heap_alloc_new w _) 0⟩
  have HD := Lib.hid hd
  have HM : Hid (Mod No w (w.alloc (.cells #[.bool false, .int .i64 0, .int .i64 0, .int .i64 0, .int .i64 0, .int .i64 0, .int .u16 0, .int .i64 0, .int .i64 0, .int .i64 0, .int .i64 0, .int .u16 0, .slice none 0 0, .slice none 0 0] 59))) := (Mod.refl No w).alloc _
  clear hd
  go_enter Tryd.func7, Tryd.ntmps7
  go_wp2_with fail
  generalize (w.alloc (.cells #[.bool false, .int .i64 0, .int .i64 0, .int .i64 0, .int .i64 0, .int .i64 0, .int .u16 0, .int .i64 0, .int .i64 0, .int .i64 0, .int .i64 0, .int .u16 0, .slice none 0 0, .slice none 0 0] 59)) = w0 at HD HM ⊢
  generalize w.heap.size = C at HD ⊢
  refine (new_in 1 w0 (by omega) (by omega)).mono ?_
  rintro e w1 ⟨B, F, rfl, hB, hF, hm1, hP1⟩
  have HP1 := Lib.hid hP1
  have HM1 := Lib.hid (HM.out.trans hm1)
  have HD1 := Lib.hid (HD.out.kept hm1 (fun _ _ q => q))
  clear hm1 hP1 hB hF HM HD
  go_wp2_with fail
  refine (vnew_in none [] 0 w1 HP1.out ⟨fun o ho => absurd ho (by simp), fun h => absurd h (by simp)⟩ (by simp)).mono ?_
  rintro e w2 ⟨vk, rfl, hm2, hv2⟩
  have HM2 := Lib.hid (HM1.out.trans hm2)
  have HD2 := Lib.hid (HD1.out.kept hm2 (fun _ _ q => q))
  clear hm2 hv2 HP1 HM1 HD1
  go_wp2_with fail
  refine (drain_no (p := none) (v := some ⟨vk.V, 0, none⟩) w2 (HN0.out _)).mono ?_
  rintro e w' ⟨rfl, rfl⟩
  go_wp2_with fail
  refine (feed_no (p := some ⟨C, 0, none⟩) (v := some ⟨vk.V, 0, none⟩) w2 HD2.out).mono ?_
  rintro e w' ⟨rfl, rfl⟩
  go_wp2_with fail
  refine (cnew_zero w2).mono ?_
  rintro e w3 ⟨b, rfl, hm3, hk3⟩
  have HM3 := Lib.hid (HM2.out.trans hm3)
  have HD3 := Lib.hid (HD2.out.kept hm3 (fun _ _ q => q))
  have HK3 := Lib.hid hk3
  clear hm3 hk3 HM2 HD2
  go_wp2_with fail
  refine (feed_nil (b := b) w3 HK3.out).mono ?_
  rintro e w' ⟨rfl, rfl⟩
  go_wp2_with (first
    | (go_at_call 20; refine (lines_no _ (HN0.out _)).mono ?_; rintro e w' ⟨rfl, rfl⟩)
    | (go_at_call 21; refine (rest_no _ HD3.out).mono ?_; rintro e w' ⟨rfl, rfl⟩)
    | (go_at_call 23; refine (cmfn_no _ (HN0.out _)).mono ?_; rintro e w' ⟨rfl, rfl⟩))
  go_ret
  exact ⟨rfl, HM3.out⟩

end Go.Proofs.YtmdeljacbekbpaaDoor
