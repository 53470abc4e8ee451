/- tenementlaw08.RingZero: the walk. -/
import Derived.Test.YtpfjpfepbhfmeaaLaw08Zero
namespace Go.Proofs.Ytpfjpfepbhfmeaa
open Go.RowKit
set_option maxRecDepth 100000

/-- What RingZero lays ahead of its calls. -/
structure ZeroI (w0 : World) (B F c g b : Nat) (k : Bk) (V : Nat) (w : World) : Prop where
  p : PhM w B F (List.replicate 1 freeFr)
  c : NoM w (some ⟨c, 0, none⟩)
  g : NoM w (some ⟨g, 0, none⟩)
  b : BkM w b k
  mod : Mod No w0 w
theorem ZeroI.kept {w0 w w' : World} {B F c g b V : Nat} {k : Bk} (h : ZeroI w0 B F c g b k V w) (hm : Mod No w w') : ZeroI w0 B F c g b k V w' :=
  ⟨h.p.kept hm (fun q => q) (fun q => q), h.c.kept hm (fun _ _ q => q), h.g.kept hm (fun _ _ q => q), h.b.no hm, h.mod.trans hm⟩

set_option maxHeartbeats 8000000 in
theorem rzero_any (mfn : Int) (q : Option Addr) (n c : Nat) (w : World) :
    Calls Try.prog 12 #[.int .i64 mfn, .slice q n c] w fun e w' => e = .returned (.bool true) ∧ Mod No w w' := by
  obtain ⟨C, hC⟩ : ∃ C, C = w.heap.size := ⟨_, rfl⟩
  have hc : NoM ((w.alloc (.cells #[.bool false, .int .i64 0, .int .u16 0, .int .u16 0, .int .u16 0] 116)).alloc (.cells #[.bool false, .int .i64 0, .int .u16 0, .int .u16 0, .pointer none] 119)) (some ⟨w.heap.size, 0, none⟩) :=
    NoM.alloc (.inr ⟨_, rfl, row_cell (l := [.bool false, .int .i64 0, .int .u16 0, .int .u16 0, .int .u16 0]) (heap_alloc_new w _) 0⟩) _
  have hg : NoM ((w.alloc (.cells #[.bool false, .int .i64 0, .int .u16 0, .int .u16 0, .int .u16 0] 116)).alloc (.cells #[.bool false, .int .i64 0, .int .u16 0, .int .u16 0, .pointer none] 119)) (some ⟨w.heap.size + 1, 0, none⟩) := by
    refine .inr ⟨_, rfl, ?_⟩
    have := row_cell (l := [.bool false, .int .i64 0, .int .u16 0, .int .u16 0, .pointer none]) (heap_alloc_new (w.alloc (.cells #[.bool false, .int .i64 0, .int .u16 0, .int .u16 0, .int .u16 0] 116)) (.cells #[.bool false, .int .i64 0, .int .u16 0, .int .u16 0, .pointer none] 119)) 0
    rwa [World.size_alloc] at this
  have hm0 : Mod No w ((w.alloc (.cells #[.bool false, .int .i64 0, .int .u16 0, .int .u16 0, .int .u16 0] 116)).alloc (.cells #[.bool false, .int .i64 0, .int .u16 0, .int .u16 0, .pointer none] 119)) := ((Mod.refl No w).alloc _).alloc _
  have HC := Lib.hid hc
  have HG := Lib.hid hg
  have HM := Lib.hid hm0
  clear hc hg hm0 hC
  go_enter Try.func12, Try.ntmps12
  go_wp2_with fail
  generalize ((w.alloc (.cells #[.bool false, .int .i64 0, .int .u16 0, .int .u16 0, .int .u16 0] 116)).alloc (.cells #[.bool false, .int .i64 0, .int .u16 0, .int .u16 0, .pointer none] 119)) = w0 at HC HG HM ⊢
  generalize w.heap.size + 1 = G at HG ⊢
  generalize w.heap.size = C at HC ⊢
  refine (new_in 1 w0 (by omega) (by omega)).mono ?_
  rintro e w1 ⟨B, F, rfl, hB, hF, hm1, hP1⟩
  have HP1 := Lib.hid hP1
  have HM1 := Lib.hid hm1
  clear hm1 hP1 hB hF
  go_wp2_with fail
  refine (bnew_in 0 w1 (by omega)).mono ?_
  rintro e w2 ⟨rfl, hm2, hk2⟩
  have HK2 := Lib.hid hk2
  have HM2 := Lib.hid hm2
  clear hm2 hk2
  go_wp2_with fail
  refine (vnew_in none [] 0 w2 (HP1.out.kept HM2.out (fun q => q) (fun q => q)) ⟨fun o ho => absurd ho (by simp), fun h => absurd h (by simp)⟩ (by simp)).mono ?_
  rintro e w3 ⟨vk, rfl, hm3, hv3⟩
  have hI : ZeroI w B F C G w1.heap.size ⟨0, 0, 0, 0⟩ vk.V w3 := by
    have h13 := HM2.out.trans hm3
    have h03 := HM1.out.trans h13
    exact ⟨HP1.out.kept h13 (fun q => q) (fun q => q), HC.out.kept h03 (fun _ _ q => q), HG.out.kept h03 (fun _ _ q => q), HK2.out.no hm3, HM.out.trans h03⟩
  have HI := Lib.hid hI
  clear hI hm3 hv3 HK2 HM1 HM2 HP1 HC HG HM
  generalize w1.heap.size = b at HI ⊢
  have HN0 : Hid (∀ w', NoM w' none) := fun _ => .inl rfl
  have HV0 : Hid (∀ w', NoW w' none) := fun _ => .inl rfl
  go_wp2_with fail
  refine (look_no (p := none) (v := some ⟨vk.V, 0, none⟩) w3 (.inl (HN0.out _))).mono ?_
  rintro e w' ⟨rfl, rfl⟩
  go_wp2_with fail
  refine (take_no (p := some ⟨C, 0, none⟩) (v := some ⟨vk.V, 0, none⟩) w3 (.inl HI.out.c)).mono ?_
  rintro e w' ⟨rfl, rfl⟩
  go_wp2_with fail
  refine (look_no (p := some ⟨b, 0, none⟩) (v := none) w3 (.inr ⟨b, _, rfl, HI.out.b, HV0.out _⟩)).mono ?_
  rintro e w' ⟨rfl, rfl⟩
  go_wp2_with fail
  have hI4 := HI.out.kept ((Mod.refl No w3).alloc (.cells #[.pointer none, .map none, .int .i64 0] 122))
  have hv4 : NoW (w3.alloc (.cells #[.pointer none, .map none, .int .i64 0] 122)) (some ⟨w3.heap.size, 0, none⟩) :=
    .inr ⟨_, rfl, row_cell (l := [.pointer none, .map none, .int .i64 0]) (heap_alloc_new w3 (.cells #[.pointer none, .map none, .int .i64 0] 122)) 0⟩
  have HI4 := Lib.hid hI4
  have HV4 := Lib.hid hv4
  clear hI4 hv4 HI
  generalize (w3.alloc (.cells #[.pointer none, .map none, .int .i64 0] 122)) = w4 at HI4 HV4 ⊢
  refine (take_no (p := some ⟨b, 0, none⟩) (v := some ⟨w3.heap.size, 0, none⟩) w4 (.inr ⟨b, _, rfl, HI4.out.b, HV4.out⟩)).mono ?_
  rintro e w' ⟨rfl, rfl⟩
  clear HV4
  go_wp2_with fail
  refine (get_no (p := none) w4 (HN0.out _)).mono ?_
  rintro e w' ⟨rfl, rfl⟩
  go_wp2_with fail
  refine (open_no (p := none) 0 7 w4 (frame_none 0 w4 (.inl rfl)) (by decide)).mono ?_
  rintro e w5 ⟨rfl, hm5⟩
  have HI5 := Lib.hid (HI4.out.kept hm5)
  clear HI4 hm5
  go_wp2_with fail
  refine (open_no (p := some ⟨B, 0, none⟩) 1 1 w5 (frame_out 1 w5 HI5.out.p (.inr (by simp))) (by decide)).mono ?_
  rintro e w6 ⟨rfl, hm6⟩
  have HI6 := Lib.hid (HI5.out.kept hm6)
  clear HI5 hm6
  go_wp2_with fail
  refine (ans_no (p := none) (v := some ⟨vk.V, 0, none⟩) w6 (.inl (HN0.out _))).mono ?_
  rintro e w7 ⟨rfl, hm7⟩
  have HI7 := Lib.hid (HI6.out.kept hm7)
  clear HI6 hm7
  go_wp2_with fail
  refine (ans_no (p := some ⟨b, 0, none⟩) (v := none) w7 (.inr ⟨b, _, rfl, HI7.out.b, HV0.out _⟩)).mono ?_
  rintro e w8 ⟨rfl, hm8⟩
  have HI8 := Lib.hid (HI7.out.kept hm8)
  clear HI7 hm8
  go_wp2_with fail
  refine (put_no (p := some ⟨G, 0, none⟩) w8 HI8.out.g).mono ?_
  rintro e w' ⟨rfl, rfl⟩
  go_wp2_with (first
    | (go_at_call 53; refine (taken_no _ (HN0.out _)).mono ?_; rintro e w' ⟨rfl, rfl⟩)
    | (go_at_call 54; refine (laid_no _ HI8.out.c).mono ?_; rintro e w' ⟨rfl, rfl⟩)
    | (go_at_call 58; refine (waiting_no _ (HN0.out _)).mono ?_; rintro e w' ⟨rfl, rfl⟩)
    | (go_at_call 60; refine (bmfn_no _ HI8.out.c).mono ?_; rintro e w' ⟨rfl, rfl⟩)
    | (go_at_call 64; refine (room_no _ (HN0.out _)).mono ?_; rintro e w' ⟨rfl, rfl⟩)
    | (go_at_call 64; refine (room_no _ HI8.out.g).mono ?_; rintro e w' ⟨rfl, rfl⟩))
  go_ret
  exact ⟨rfl, HI8.out.mod⟩

end Go.Proofs.Ytpfjpfepbhfmeaa
