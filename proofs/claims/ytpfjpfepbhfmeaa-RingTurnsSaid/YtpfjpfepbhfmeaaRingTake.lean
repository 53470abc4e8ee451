/- The ring's back end over a view: Take, Answer. -/
import Derived.Test.YtpfjpfepbhfmeaaRingOps
namespace Go.Proofs.Ytpfjpfepbhfmeaa
open Go.RowKit
set_option maxRecDepth 100000

def Bk.busy (k : Bk) : Prop := k.wait = 0 ∨ 8 ≤ k.btw
def Bk.took (k : Bk) : Bk := { k with inn := (k.inn + 1) % 65536 }
def Bk.slot (k : Bk) : Int := 16 + 16 * (k.inn % 8)
theorem took_ok {k : Bk} (h : k.ok) : k.took.ok := ⟨by simp only [Bk.took]; omega, h.o, h.s⟩

set_option maxHeartbeats 4000000 in
theorem take_busy {B F b base top : Nat} {vk : ViK} {N : Int} {l : List Pk} {S : List Fr} {k : Bk} (w : World) (h : CV B F b base top vk N l S k w) (hb : k.busy) :
    Calls Try.prog 50 #[.pointer (some ⟨b, 0, none⟩), .pointer (some ⟨vk.V, 0, none⟩)] w fun e w' => e = .returned (.tuple #[.slice none 0 0, .int .i64 5]) ∧ Mod No w w' := by
  have HB := Lib.hid (bnone_made w h.bk)
  have HU := Lib.hid (unmade_made w h.v)
  have HWT := Lib.hid (waiting_made w h.bk h.ok)
  have hi := h.ok.i
  have ho := h.ok.o
  have hbk := h.bk
  have HBT := Lib.hid (fun w' => between_any k.mfn k.inn k.out w')
  have hwr : 0 ≤ k.wait ∧ k.wait ≤ 65535 := by unfold Bk.wait; omega
  have hbr : 0 ≤ k.btw ∧ k.btw ≤ 65535 := by unfold Bk.btw; omega
  rw [show (k.inn - k.out) % 65536 = k.btw from rfl] at HBT
  have HBK := Lib.hid hbk
  unfold Bk.busy at hb
  generalize k.wait = wt at HWT hwr hb
  generalize k.btw = bt at HBT hbr hb
  clear h hbk
  by_cases c1 : wt = 0
  · subst c1
    go_enter Try.func50, Try.ntmps50
    go_wp2_with (first
      | (go_at_call 99; refine HB.out.mono ?_; rintro e w' ⟨rfl, rfl⟩)
      | (go_at_call 100; refine HU.out.mono ?_; rintro e w' ⟨rfl, rfl⟩)
      | (go_at_call 58; refine HWT.out.mono ?_; rintro e w1 ⟨rfl, hm1⟩))
    go_ret2
    exact ⟨rfl, hm1⟩
  · have d1 : (wt == 0) = false := beq_eq_false_iff_ne.2 c1
    have c2 : 8 ≤ bt := hb.resolve_left c1
    have d2 : decide (8 ≤ bt) = true := decide_eq_true c2
    go_enter Try.func50, Try.ntmps50
    go_wp2_with (first
      | (go_at_call 99; refine HB.out.mono ?_; rintro e w' ⟨rfl, rfl⟩)
      | (go_at_call 100; refine HU.out.mono ?_; rintro e w' ⟨rfl, rfl⟩)
      | (go_at_call 58; refine HWT.out.mono ?_; rintro e w1 ⟨rfl, hm1⟩; obtain ⟨c0, c1', c2', c3, c4⟩ := (HBK.out.no hm1).c)
      | (go_at_call 102; refine (HBT.out _).mono ?_; rintro e w2 ⟨rfl, hm2⟩))
    go_ret2
    exact ⟨rfl, hm1.trans hm2⟩

set_option maxHeartbeats 4000000 in
/-- Take up to the read. -/
theorem take_any {B F b base top : Nat} {vk : ViK} {N : Int} {l : List Pk} {S : List Fr} {k : Bk} (w : World) (h : CV B F b base top vk N l S k w) (hb : ¬ k.busy) (Q : Ending → World → Prop)
    (hQ : ∀ w', CV B F b base top vk N l S k.took w' → Mod (P3 F vk b) w w' → Calls Try.prog 32 #[.pointer (some ⟨vk.V, 0, none⟩), .int .i64 k.mfn, .int .i64 k.slot, .int .i64 16] w' fun e w2 => ∃ x y, e = .returned (.tuple #[x, y]) ∧ Q (.returned (.tuple #[x, y])) w2) :
    Calls Try.prog 50 #[.pointer (some ⟨b, 0, none⟩), .pointer (some ⟨vk.V, 0, none⟩)] w Q := by
  have HB := Lib.hid (bnone_made w h.bk)
  have HU := Lib.hid (unmade_made w h.v)
  have HWT := Lib.hid (waiting_made w h.bk h.ok)
  have hi := h.ok.i
  have ho := h.ok.o
  have HC := Lib.hid h
  have HBT := Lib.hid (fun w' => between_any k.mfn k.inn k.out w')
  have HSL := Lib.hid (fun w' => slotQ_any 16 k.inn w' (by omega) hi)
  have hwr : 0 ≤ k.wait ∧ k.wait ≤ 65535 := by unfold Bk.wait; omega
  have hbr : 0 ≤ k.btw ∧ k.btw ≤ 65535 := by unfold Bk.btw; omega
  rw [show (k.inn - k.out) % 65536 = k.btw from rfl] at HBT
  rw [show 16 + 16 * (k.inn % 8) = k.slot from rfl] at HSL
  have hc1 : k.wait ≠ 0 := fun q => hb (.inl q)
  have hc2 : ¬ 8 ≤ k.btw := fun q => hb (.inr q)
  have hsl : 16 ≤ k.slot ∧ k.slot ≤ 128 := by unfold Bk.slot; omega
  have HQ := Lib.hid hQ
  have HTK := Lib.hid (took_ok h.ok)
  obtain ⟨y, hy⟩ : ∃ y, y = (k.inn + 1) % 65536 := ⟨_, rfl⟩
  have hyw : IntKind.u16.wrap (k.inn + 1) = y := by rw [hy]; rfl
  have HY : Hid (k.took = { k with inn := y }) := by rw [hy]; rfl
  generalize k.wait = wt at HWT hwr hc1
  generalize k.btw = bt at HBT hbr hc2
  generalize k.slot = sl at HSL HQ hsl
  have d1 : (wt == 0) = false := beq_eq_false_iff_ne.2 hc1
  have d2 : decide (8 ≤ bt) = false := decide_eq_false hc2
  clear h hb hy hQ hc1 hc2
  go_enter Try.func50, Try.ntmps50
  go_wp2_with (first
    | (go_at_call 99; refine HB.out.mono ?_; rintro e w' ⟨rfl, rfl⟩)
    | (go_at_call 100; refine HU.out.mono ?_; rintro e w' ⟨rfl, rfl⟩)
    | (go_at_call 58; refine HWT.out.mono ?_; rintro e w1 ⟨rfl, hm1⟩; obtain ⟨c0, c1', c2', c3, c4⟩ := (HC.out.bk.no hm1).c)
    | (go_at_call 102; refine (HBT.out _).mono ?_; rintro e w2 ⟨rfl, hm2⟩; have HM2 := Lib.hid (hm1.trans hm2); clear c0 c1' c2' c3 c4 hm1 hm2; obtain ⟨c0, c1', c2', c3, c4⟩ := (HC.out.bk.no HM2.out).c)
    | (go_at_call 103; refine (HSL.out _).mono ?_; rintro e w3 ⟨rfl, hm3⟩; have HM3 := Lib.hid (HM2.out.trans hm3); clear c0 c1' c2' c3 c4 hm3; obtain ⟨c0, c1', c2', c3, c4⟩ := (HC.out.bk.no HM3.out).c; have f2 := (HC.out.bk.no HM3.out).f 2))
  obtain ⟨hcv, hm4⟩ := (HC.out.no HM3.out).set 2 (.int .u16 y) ((HC.out.no HM3.out).bk.setI y) (by have := HTK.out; rw [HY.out] at this; exact this)
  rw [← HY.out] at hcv
  refine (HQ.out _ hcv ((Mod.of_no HM3.out).trans hm4)).mono ?_
  rintro e w5 ⟨x, z, rfl, hq⟩
  have HQ5 := Lib.hid hq
  clear hq hcv hm4 c0 c1' c2' c3 c4
  go_wp2
  exact HQ5.out

theorem slot_in {S : List Fr} {k : Bk} (h : 0 ≤ k.mfn ∧ k.mfn < S.length) : InP S k.mfn k.slot 16 := ⟨h, by unfold Bk.slot; omega, by omega, by unfold Bk.slot; omega⟩

theorem take_ok {B F b base top : Nat} {vk : ViK} {N : Int} {l : List Pk} {S : List Fr} {k : Bk} (f : Fr) (w : World) (h : CV B F b base top vk N l S k w) (hb : ¬ k.busy) (hN : 0 ≤ N ∧ N < 4611686018427387904) (hl : l.length ≤ 140737488355328) (hr : 0 ≤ k.mfn ∧ k.mfn < S.length) (hf : (pokes (dueAt l N) S)[k.mfn.toNat]? = some f) :
    Calls Try.prog 50 #[.pointer (some ⟨b, 0, none⟩), .pointer (some ⟨vk.V, 0, none⟩)] w fun e w' => ∃ g, e = .returned (.tuple #[.slice (some ⟨g, 0, none⟩) 16 16, .int .i64 0]) ∧ w.heap.size ≤ g ∧ g < w'.heap.size ∧
      w'.heap[g]? = some (.cells (((f.bytes.drop k.slot.toNat).take 16).map (Value.int .u8)).toArray 5 (0, 0)) ∧ CV B F b base top vk (N + 1) l (pokes (dueAt l N) S) k.took w' ∧ Mod (P3 F vk b) w w' := by
  refine take_any w h hb _ (fun w1 h1 hm1 => ?_)
  refine (vread_ok k.mfn k.slot 16 f w1 h1.p h1.v h1.sep.1 hN hl (slot_in hr) hf).mono ?_
  rintro e w2 ⟨g, rfl, hg0, hg1, hrow, ho⟩
  obtain ⟨h2, hm2⟩ := h1.vout ho
  exact ⟨_, _, rfl, g, rfl, Nat.le_trans hm1.size hg0, hg1, hrow, h2, hm1.trans hm2⟩

theorem take_bad {B F b base top : Nat} {vk : ViK} {N : Int} {l : List Pk} {S : List Fr} {k : Bk} (w : World) (h : CV B F b base top vk N l S k w) (hb : ¬ k.busy) (hN : 0 ≤ N ∧ N < 4611686018427387904) (hl : l.length ≤ 140737488355328) (hr : ¬ (0 ≤ k.mfn ∧ k.mfn < S.length)) :
    Calls Try.prog 50 #[.pointer (some ⟨b, 0, none⟩), .pointer (some ⟨vk.V, 0, none⟩)] w fun e w' => e = .returned (.tuple #[.slice none 0 0, .int .i64 1]) ∧ CV B F b base top vk (N + 1) l (pokes (dueAt l N) S) k.took w' ∧ Mod (P3 F vk b) w w' := by
  refine take_any w h hb _ (fun w1 h1 hm1 => ?_)
  refine (vread_bad k.mfn k.slot 16 w1 h1.p h1.v h1.sep.1 hN hl (fun q => hr q.1)).mono ?_
  rintro e w2 ⟨rfl, ho⟩
  obtain ⟨h2, hm2⟩ := h1.vout ho
  exact ⟨_, _, rfl, rfl, h2, hm1.trans hm2⟩

/-- The view's own write. -/
theorem vwrite_cv {B F b base top : Nat} {vk : ViK} {N : Int} {l : List Pk} {S : List Fr} {k : Bk} (i off : Int) (p : Option Addr) (c : Nat) (bs : List Int) (w : World) (h : CV B F b base top vk N l S k w) (hs : Src w p bs) :
    Calls Try.prog 33 #[.pointer (some ⟨vk.V, 0, none⟩), .int .i64 i, .int .i64 off, .slice p bs.length c] w fun e w' => e = .returned (.int .i64 (wrE S i off bs.length)) ∧ CV B F b base top vk N l (wrR S i off bs) k w' ∧ Mod (One F) w w' :=
  vwrite_any (V := vk.V) (B := B) i off p bs.length c w h.v.c0.1 ((pwrite_any i off p c bs w h.p hs).mono fun _ _ q => ⟨q.1, (h.wrote q.2.1 q.2.2).1, q.2.1⟩)

end Go.Proofs.Ytpfjpfepbhfmeaa
