/- The document's back end over a view: Answer. -/
import Derived.Test.YtpfjpfepbhfmeaaRingRTake
namespace Go.Proofs.Ytpfjpfepbhfmeaa
open Go.RowKit
set_option maxRecDepth 100000

theorem btw_zero {k : Bk} (h : k.ok) : k.btw = 0 ↔ k.out = k.inn := by
  have h1 := h.i
  have h2 := h.o
  unfold Bk.btw
  omega

theorem rans_len {c X n : Nat} (q : Option Addr) (cap : Nat) (w : World) (hn : n ≠ 8) :
    Calls Try.prog 108 #[.pointer (some ⟨c, 0, none⟩), .pointer (some ⟨X, 0, none⟩), .slice q n cap] w fun e w' => e = .returned (.int .i64 1) ∧ Mod No w w' := by
  have d1 : ((n : Int) == 8) = false := beq_eq_false_iff_ne.2 (by omega)
  have d2 : ((n : Int) != 8) = true := bne_iff_ne.2 (by omega)
  have d3 : (n == 8) = false := beq_eq_false_iff_ne.2 hn
  have d4 : (n != 8) = true := bne_iff_ne.2 hn
  go_enter Try.func108, Try.ntmps108
  go_wp2
  go_ret
  exact ⟨rfl, Mod.refl _ _⟩

theorem rans_state {c X : Nat} {k : Bk} (q : Option Addr) (cap : Nat) (w : World) (h : RBkM w c k) (ho : k.ok) (hb : k.btw = 0) :
    Calls Try.prog 108 #[.pointer (some ⟨c, 0, none⟩), .pointer (some ⟨X, 0, none⟩), .slice q 8 cap] w fun e w' => e = .returned (.int .i64 5) ∧ Mod No w w' := by
  obtain ⟨c0, c1, c2, c3⟩ := h.c
  have e := (btw_zero ho).1 hb
  have d1 : (k.out == k.inn) = true := beq_iff_eq.2 e
  obtain ⟨m, i, o, s⟩ := k
  dsimp only at *
  subst e
  clear h ho hb
  go_enter Try.func108, Try.ntmps108
  go_wp2_with fail
  go_quiet (fail)
  go_wp2
  go_ret
  exact ⟨rfl, (Mod.refl No w).drewN _⟩

set_option maxHeartbeats 8000000 in
theorem rans_ok {w0 : World} {X : Nat} {K : RfK} {q : Option Addr} {cap : Nat} {l : List Pk} {N : Int} {S : List Fr} {c : Nat} {k : Bk} (p : Option Addr) (bs : List Int) (pc : Nat) (w : World) (h : RV w0 X K q cap l N S c k w) (hb : k.btw ≠ 0) (hl : bs.length = 8) (hr : ∀ x ∈ bs, 0 ≤ x ∧ x ≤ 255)
    (hs : ∀ w', Mod No w w' → ∃ b o, p = some ⟨b, o, none⟩ ∧ ¬ K.inn b ∧ bs.length ≤ pc ∧ ∀ j x, bs[j]? = some x → w'.cell? ⟨b, o + j, none⟩ = some (.int .u8 x)) :
    Calls Try.prog 108 #[.pointer (some ⟨c, 0, none⟩), .pointer (some ⟨X, 0, none⟩), .slice p 8 pc] w fun e w' => e = .returned (.int .i64 0) ∧ RV w0 X K q cap l N (ansR S k bs) c k.laid w' ∧ Mod (Q3 K X c) w w' := by
  have HC := Lib.hid h
  have hoo := h.ok.o
  have HLD := Lib.hid (laid_ok h.ok)
  have HNE := Lib.hid h.ne
  have d1 : (k.out == k.inn) = false := beq_eq_false_iff_ne.2 (fun e => hb ((btw_zero h.ok).2 e))
  obtain ⟨y, hy⟩ : ∃ y, y = (k.out + 1) % 65536 := ⟨_, rfl⟩
  have hyw : IntKind.u16.wrap (k.out + 1) = y := by rw [hy]; rfl
  have hyr : 0 ≤ y ∧ y ≤ 65535 := by omega
  have HY : Hid (k.laid = { k with out := y }) := by rw [hy]; rfl
  have HTW := Lib.hid (fun w' => rtwo_any y w' hyr)
  have HSW : Hid (IntKind.i64.wrap (144 + IntKind.i64.wrap (8 * IntKind.i64.wrap (k.out.tmod 8))) = k.aslot) := slot_wrap 144 8 k.out (by omega) (by omega) hoo
  have HWV : Hid (∀ w', Mod No w w' → Calls Try.prog 79 #[.pointer (some ⟨K.R, 0, none⟩), .int .i64 k.mfn, .int .i64 k.aslot, .slice p 8 pc] w' fun e w2 => e = .returned (.int .i64 (wrE S k.mfn k.aslot bs.length)) ∧ Mod K.inn w' w2 ∧ RfM w2 K (wrR S k.mfn k.aslot bs)) := fun w' hm => by
    have h1 := rwrite_any k.mfn k.aslot p pc bs w' (h.r.keptNo hm) hr (fun _ => hs w' hm)
    rw [hl] at h1 ⊢
    exact h1
  have HAN : Hid (ansR S k bs = wrR (wrR S k.mfn k.aslot bs) k.mfn 2 (twoB y)) := by rw [hy]; rfl
  obtain ⟨c0, c1, c2, c3⟩ := h.bk.c
  obtain ⟨x0, _⟩ := h.x.c
  generalize k.aslot = sl at HSW HWV HAN
  generalize wrE S k.mfn sl bs.length = r1 at HWV
  generalize wrR S k.mfn sl bs = S1 at HWV HAN
  clear h hb hy hs hr
  go_enter Try.func108, Try.ntmps108
  go_wp2_with fail
  go_quiet (fail)
  have HM0 : Hid (Mod No w (w.drewN nq)) := (Mod.refl No w).drewN nq
  clear c0 c1 c2 c3 x0
  generalize w.drewN nq = wd at HM0 ⊢
  have HC0 := Lib.hid (HC.out.no HM0.out)
  obtain ⟨c0, _, c2, _⟩ := HC0.out.bk.c
  obtain ⟨x0, _⟩ := HC0.out.x.c
  have hS1 : (fun w' : World => w'.cell? ⟨X, 0, none⟩ = some (.pointer (some ⟨K.R, 0, none⟩)) ∧ w'.cell? ⟨c, 0, none⟩ = some (.int .i64 k.mfn) ∧ w'.cell? ⟨c, 2, none⟩ = some (.int .u16 k.out)) wd := ⟨x0, c0, c2⟩
  clear c0 c2 x0
  go_wp2_with fail
  go_region_held3 (fun w' : World => w'.cell? ⟨X, 0, none⟩ = some (.pointer (some ⟨K.R, 0, none⟩)) ∧ w'.cell? ⟨c, 0, none⟩ = some (.int .i64 k.mfn) ∧ w'.cell? ⟨c, 2, none⟩ = some (.int .u16 k.out)) (first | exact hS1 | assumption) ((go_at_call 79; rw [HSW.out]; refine (HWV.out _ (HM0.out.drew)).mono ?_; rintro e w2 ⟨rfl, hm2, hr2⟩; have hrv2 := (HC0.out.no ((Mod.refl No wd).drew)).wrote hm2 hr2; have hS2 : (fun w' : World => w'.cell? ⟨X, 0, none⟩ = some (.pointer (some ⟨K.R, 0, none⟩)) ∧ w'.cell? ⟨c, 0, none⟩ = some (.int .i64 k.mfn) ∧ w'.cell? ⟨c, 2, none⟩ = some (.int .u16 k.out)) w2 := ⟨hrv2.1.x.c.1, hrv2.1.bk.c.1, hrv2.1.bk.c.2.2.1⟩; have HRV2 := Lib.hid hrv2; clear hrv2 hm2 hr2))
  have f2 := HRV2.out.1.bk.f 2
  have hx2 := hS2.2.2
  obtain ⟨hrv3, hm3⟩ := HRV2.out.1.set 2 (.int .u16 y) (HRV2.out.1.bk.setO y) (by have := HLD.out; rw [HY.out] at this; exact this)
  have HRV3 := Lib.hid hrv3
  have HM3 : Hid (Mod (Q3 K X c) w (w2.setCell ⟨c, 2, none⟩ (.int .u16 y))) := ((Mod.of_no (HM0.out.drew)).trans HRV2.out.2).trans hm3
  clear hrv3 hm3 hS1 hS2
  go_upto_region 7 with (fail)
  have hcc := HRV3.out.bk.c
  have hxx := HRV3.out.x.c.1
  generalize (w2.setCell ⟨c, 2, none⟩ (.int .u16 y)) = w5 at HRV3 HM3 hcc hxx ⊢
  have hS1 : (fun w' : World => w'.cell? ⟨X, 0, none⟩ = some (.pointer (some ⟨K.R, 0, none⟩)) ∧ w'.cell? ⟨c, 0, none⟩ = some (.int .i64 k.mfn) ∧ w'.cell? ⟨c, 2, none⟩ = some (.int .u16 y)) w5 := ⟨hxx, hcc.1, hcc.2.2.1⟩
  clear hcc hxx hx2 f2
  have HLB : Hid (c < w5.heap.size ∧ X < w5.heap.size) := ⟨HRV3.out.bk.lt, lt_of_blk HRV3.out.x.head⟩
  have HLK : Hid (∀ i, K.inn i → i < w5.heap.size) := fun i hi => HRV3.out.r.lt i (RfK.inn_has hi)
  go_region_held3 (fun w' : World => w'.cell? ⟨X, 0, none⟩ = some (.pointer (some ⟨K.R, 0, none⟩)) ∧ w'.cell? ⟨c, 0, none⟩ = some (.int .i64 k.mfn) ∧ w'.cell? ⟨c, 2, none⟩ = some (.int .u16 y)) (first | exact hS1 | assumption) (first
    | (go_at_call 121; refine (HTW.out _).mono ?_; rintro e w6 ⟨rfl, hm6, hs6, hg6⟩; have hS6 : (fun w' : World => w'.cell? ⟨X, 0, none⟩ = some (.pointer (some ⟨K.R, 0, none⟩)) ∧ w'.cell? ⟨c, 0, none⟩ = some (.int .i64 k.mfn) ∧ w'.cell? ⟨c, 2, none⟩ = some (.int .u16 y)) w6 := ⟨(World.cell?_of_block (w := w5) (hm6.block X HLB.out.2 (fun q => q))).trans hS1.1, (World.cell?_of_block (w := w5) (hm6.block c HLB.out.1 (fun q => q))).trans hS1.2.1, (World.cell?_of_block (w := w5) (hm6.block c HLB.out.1 (fun q => q))).trans hS1.2.2⟩; have HM6 := Lib.hid hm6; have HG6 := Lib.hid hg6; clear hm6 hg6 hs6)
    | (go_at_call 79; refine (rwrite_any k.mfn 2 (some ⟨w5.heap.size, 0, none⟩) 2 (twoB y) w6 ((HRV3.out.no ((Mod.refl No w5).drew.trans HM6.out)).r) (twoB_range hyr) (fun _ => ⟨w5.heap.size, 0, rfl, (fun q => by have := HLK.out _ q; omega), Nat.le_refl _, fun j x hj => by rw [Nat.zero_add]; exact (row_cell HG6.out j).trans (by rw [List.getElem?_map, hj]; rfl)⟩)).mono ?_; rintro e w7 ⟨rfl, hm7, hr7⟩; have hrv7 := (HRV3.out.no ((Mod.refl No w5).drew.trans HM6.out)).wrote hm7 hr7; have hS7 : (fun w' : World => w'.cell? ⟨X, 0, none⟩ = some (.pointer (some ⟨K.R, 0, none⟩)) ∧ w'.cell? ⟨c, 0, none⟩ = some (.int .i64 k.mfn) ∧ w'.cell? ⟨c, 2, none⟩ = some (.int .u16 y)) w7 := ⟨hrv7.1.x.c.1, hrv7.1.bk.c.1, hrv7.1.bk.c.2.2.1⟩; have HRV7 := Lib.hid hrv7; clear hrv7 hm7 hr7))
  go_wp2
  go_ret
  rw [HAN.out, HY.out]
  exact ⟨rfl, HRV7.out.1, (HM3.out.trans (Mod.of_no ((Mod.refl No w5).drew.trans HM6.out))).trans HRV7.out.2⟩

end Go.Proofs.Ytpfjpfepbhfmeaa
