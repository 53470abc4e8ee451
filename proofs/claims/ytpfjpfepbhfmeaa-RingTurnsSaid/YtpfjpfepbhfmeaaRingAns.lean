/- The ring's back end over a view: Answer. -/
import Derived.Test.YtpfjpfepbhfmeaaRingTake
namespace Go.Proofs.Ytpfjpfepbhfmeaa
open Go.RowKit
set_option maxRecDepth 100000

def Bk.laid (k : Bk) : Bk := { k with out := (k.out + 1) % 65536 }
def Bk.aslot (k : Bk) : Int := 144 + 8 * (k.out % 8)
theorem laid_ok {k : Bk} (h : k.ok) : k.laid.ok := ⟨h.i, by simp only [Bk.laid]; omega, h.s⟩
/-- The frames behind an answer. -/
def ansR (S : List Fr) (k : Bk) (bs : List Int) : List Fr := wrR (wrR S k.mfn k.aslot bs) k.mfn 2 (twoB k.laid.out)

set_option maxHeartbeats 4000000 in
theorem ans_len {B F b base top : Nat} {vk : ViK} {N : Int} {l : List Pk} {S : List Fr} {k : Bk} (q : Option Addr) (n c : Nat) (w : World) (h : CV B F b base top vk N l S k w) (hn : n ≠ 8) :
    Calls Try.prog 52 #[.pointer (some ⟨b, 0, none⟩), .pointer (some ⟨vk.V, 0, none⟩), .slice q n c] w fun e w' => e = .returned (.int .i64 1) ∧ Mod No w w' := by
  have HB := Lib.hid (fun w' (hm : Mod No w w') => bnone_made w' (h.bk.no hm))
  have HU := Lib.hid (fun w' (hm : Mod No w w') => unmade_made w' (h.v.no hm))
  have HSL := Lib.hid (slotR_any 144 0 w (by omega) (by omega))
  have d1 : ((n : Int) == 8) = false := beq_eq_false_iff_ne.2 (by omega)
  have d2 : ((n : Int) != 8) = true := bne_iff_ne.2 (by omega)
  have d3 : (n == 8) = false := beq_eq_false_iff_ne.2 hn
  have d4 : (n != 8) = true := bne_iff_ne.2 hn
  clear h
  go_enter Try.func52, Try.ntmps52
  go_wp2_with (first
    | (go_at_call 104; refine HSL.out.mono ?_; rintro e w1 ⟨rfl, hm1⟩)
    | (go_at_call 99; refine (HB.out _ hm1).mono ?_; rintro e w' ⟨rfl, rfl⟩)
    | (go_at_call 100; refine (HU.out _ hm1).mono ?_; rintro e w' ⟨rfl, rfl⟩))
  go_ret
  exact ⟨rfl, hm1⟩

set_option maxHeartbeats 4000000 in
theorem ans_state {B F b base top : Nat} {vk : ViK} {N : Int} {l : List Pk} {S : List Fr} {k : Bk} (q : Option Addr) (c : Nat) (w : World) (h : CV B F b base top vk N l S k w) (hb : k.btw = 0) :
    Calls Try.prog 52 #[.pointer (some ⟨b, 0, none⟩), .pointer (some ⟨vk.V, 0, none⟩), .slice q 8 c] w fun e w' => e = .returned (.int .i64 5) ∧ Mod No w w' := by
  have HB := Lib.hid (fun w' (hm : Mod No w w') => bnone_made w' (h.bk.no hm))
  have HU := Lib.hid (fun w' (hm : Mod No w w') => unmade_made w' (h.v.no hm))
  have HSL := Lib.hid (slotR_any 144 0 w (by omega) (by omega))
  have HBT := Lib.hid (fun w' => between_any k.mfn k.inn k.out w')
  rw [show (k.inn - k.out) % 65536 = k.btw from rfl, hb] at HBT
  have HC := Lib.hid h
  clear h
  go_enter Try.func52, Try.ntmps52
  go_wp2_with (first
    | (go_at_call 104; refine HSL.out.mono ?_; rintro e w1 ⟨rfl, hm1⟩; obtain ⟨c0, c1', c2', c3, c4⟩ := (HC.out.bk.no hm1).c)
    | (go_at_call 99; refine (HB.out _ hm1).mono ?_; rintro e w' ⟨rfl, rfl⟩)
    | (go_at_call 100; refine (HU.out _ hm1).mono ?_; rintro e w' ⟨rfl, rfl⟩)
    | (go_at_call 102; refine (HBT.out _).mono ?_; rintro e w2 ⟨rfl, hm2⟩))
  go_ret
  exact ⟨rfl, hm1.trans hm2⟩

set_option maxHeartbeats 8000000 in
theorem ans_ok {B F b base top : Nat} {vk : ViK} {N : Int} {l : List Pk} {S : List Fr} {k : Bk} (p : Option Addr) (bs : List Int) (c : Nat) (w : World) (h : CV B F b base top vk N l S k w) (hb : k.btw ≠ 0) (hl : bs.length = 8) (hs : Src w p bs) :
    Calls Try.prog 52 #[.pointer (some ⟨b, 0, none⟩), .pointer (some ⟨vk.V, 0, none⟩), .slice p 8 c] w fun e w' => e = .returned (.int .i64 0) ∧ CV B F b base top vk N l (ansR S k bs) k.laid w' ∧ Mod (P3 F vk b) w w' := by
  have HB := Lib.hid (fun w' (hm : Mod No w w') => bnone_made w' (h.bk.no hm))
  have HU := Lib.hid (fun w' (hm : Mod No w w') => unmade_made w' (h.v.no hm))
  have HSL := Lib.hid (slotR_any 144 0 w (by omega) (by omega))
  have hi := h.ok.i
  have ho := h.ok.o
  have HSK := Lib.hid (fun w' => slotR_any 144 k.out w' (by omega) ho)
  rw [show 144 + 8 * (k.out % 8) = k.aslot from rfl] at HSK
  have HBT := Lib.hid (fun w' => between_any k.mfn k.inn k.out w')
  have hbr : 0 ≤ k.btw ∧ k.btw ≤ 65535 := by unfold Bk.btw; omega
  rw [show (k.inn - k.out) % 65536 = k.btw from rfl] at HBT
  have HC := Lib.hid h
  have HLD := Lib.hid (laid_ok h.ok)
  have hsl : 144 ≤ k.aslot ∧ k.aslot ≤ 200 := by unfold Bk.aslot; omega
  obtain ⟨y, hy⟩ : ∃ y, y = (k.out + 1) % 65536 := ⟨_, rfl⟩
  have hyw : IntKind.u16.wrap (k.out + 1) = y := by rw [hy]; rfl
  have hyr : 0 ≤ y ∧ y ≤ 65535 := by omega
  have HY : Hid (k.laid = { k with out := y }) := by rw [hy]; rfl
  have HTW := Lib.hid (fun w' => two_any y w' hyr)
  have HWV : Hid (∀ w', Mod No w w' → Calls Try.prog 33 #[.pointer (some ⟨vk.V, 0, none⟩), .int .i64 k.mfn, .int .i64 k.aslot, .slice p 8 c] w' fun e w2 => e = .returned (.int .i64 (wrE S k.mfn k.aslot bs.length)) ∧ CV B F b base top vk N l (wrR S k.mfn k.aslot bs) k w2 ∧ Mod (One F) w' w2) := fun w' hm => by
    have h1 := vwrite_cv k.mfn k.aslot p c bs w' (h.no hm) (hs.kept hm (fun _ _ _ q => q))
    rw [hl] at h1 ⊢
    exact h1
  have HAN : Hid (ansR S k bs = wrR (wrR S k.mfn k.aslot bs) k.mfn 2 (twoB y)) := by rw [hy]; rfl
  generalize k.btw = bt at HBT hbr hb
  generalize k.aslot = sl at HSK HWV HAN hsl
  generalize wrE S k.mfn sl bs.length = r1 at HWV
  generalize wrR S k.mfn sl bs = S1 at HWV HAN
  have d1 : (bt == 0) = false := beq_eq_false_iff_ne.2 hb
  clear h hb hy hs
  go_enter Try.func52, Try.ntmps52
  go_wp2_with fail
  refine HSL.out.mono ?_
  rintro e w1 ⟨rfl, hm1⟩
  obtain ⟨c0, c1', c2', c3, c4⟩ := (HC.out.bk.no hm1).c
  go_wp2_with (first
    | (go_at_call 99; refine (HB.out _ hm1).mono ?_; rintro e w' ⟨rfl, rfl⟩)
    | (go_at_call 100; refine (HU.out _ hm1).mono ?_; rintro e w' ⟨rfl, rfl⟩)
    | (go_at_call 102; refine (HBT.out _).mono ?_; rintro e w2 ⟨rfl, hm2⟩; have HM2 := Lib.hid (hm1.trans hm2); clear c0 c1' c2' c3 c4 hm2; obtain ⟨c0, c1', c2', c3, c4⟩ := (HC.out.bk.no HM2.out).c))
  refine (HSK.out _).mono ?_
  rintro e w3 ⟨rfl, hm3⟩
  have HM3 := Lib.hid (HM2.out.trans hm3)
  clear c0 c1' c2' c3 c4 hm1 hm3
  obtain ⟨c0, c1', c2', c3, c4⟩ := (HC.out.bk.no HM3.out).c
  go_wp2_with fail
  refine (HWV.out _ HM3.out).mono ?_
  rintro e w4 ⟨rfl, hcv4, hm4⟩
  clear c0 c1' c2' c3 c4
  obtain ⟨c0, c1', c2', c3, c4⟩ := hcv4.bk.c
  have f3 := hcv4.bk.f 3
  obtain ⟨hcv5, hm5⟩ := hcv4.set 3 (.int .u16 y) (hcv4.bk.setO y) (by have := HLD.out; rw [HY.out] at this; exact this)
  have HCV5 := Lib.hid hcv5
  have HM5 : Hid (Mod (P3 F vk b) w (w4.setCell ⟨b, 3, none⟩ (.int .u16 y))) := ((Mod.of_no HM3.out).trans (hm4.mono (fun i _ (q : i = F) => .inl q))).trans hm5
  clear hcv4 hm4 hm5 hcv5
  go_upto_region 11 with (fail)
  have hcc := HCV5.out.bk.c
  have HNB := Lib.hid HCV5.out.neb
  generalize (w4.setCell ⟨b, 3, none⟩ (.int .u16 y)) = w5 at HCV5 HM5 hcc ⊢
  have hS1 : (fun w' : World => w'.cell? ⟨b, 1, none⟩ = some (.int .i64 k.mfn) ∧ w'.cell? ⟨b, 3, none⟩ = some (.int .u16 y)) w5 := ⟨hcc.2.1, hcc.2.2.2.1⟩
  clear hcc c0 c1' c2' c3 c4 f3
  have HLB : Hid (b < w5.heap.size) := HCV5.out.bk.lt
  go_region_held3 (fun w' : World => w'.cell? ⟨b, 1, none⟩ = some (.int .i64 k.mfn) ∧ w'.cell? ⟨b, 3, none⟩ = some (.int .u16 y)) (first | exact hS1 | assumption) (first
    | (go_at_call 105; refine (HTW.out _).mono ?_; rintro e w6 ⟨rfl, hm6, hs6, hg6⟩; have hS6 : (fun w' : World => w'.cell? ⟨b, 1, none⟩ = some (.int .i64 k.mfn) ∧ w'.cell? ⟨b, 3, none⟩ = some (.int .u16 y)) w6 := ⟨(World.cell?_of_block (w := w5) (hm6.block b HLB.out (fun q => q))).trans hS1.1, (World.cell?_of_block (w := w5) (hm6.block b HLB.out (fun q => q))).trans hS1.2⟩; have HM6 := Lib.hid hm6; have HG6 := Lib.hid hg6; clear hm6 hg6 hs6)
    | (go_at_call 33; refine (vwrite_cv k.mfn 2 (some ⟨w5.heap.size, 0, none⟩) 2 (twoB y) w6 (HCV5.out.no ((Mod.refl No w5).drew.trans HM6.out)) (Src.row HG6.out (twoB_range hyr))).mono ?_; rintro e w7 ⟨rfl, hcv7, hm7⟩; have hS7 : (fun w' : World => w'.cell? ⟨b, 1, none⟩ = some (.int .i64 k.mfn) ∧ w'.cell? ⟨b, 3, none⟩ = some (.int .u16 y)) w7 := ⟨hcv7.bk.c.2.1, hcv7.bk.c.2.2.2.1⟩; have HCV7 := Lib.hid hcv7; have HM7 := Lib.hid hm7; clear hcv7 hm7))
  go_wp2
  go_ret
  rw [HAN.out, HY.out]
  exact ⟨rfl, HCV7.out, (HM5.out.trans (Mod.of_no ((Mod.refl No w5).drew.trans HM6.out))).trans (HM7.out.mono (fun i _ (q : i = F) => .inl q))⟩

end Go.Proofs.Ytpfjpfepbhfmeaa
