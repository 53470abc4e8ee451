/- The ring's front end over the hypervisor's page. -/
import Derived.Test.YtpfjpfepbhfmeaaLaw08Slots
import Derived.BigQuiet
namespace Go.Proofs.Ytpfjpfepbhfmeaa
open Go.RowKit
set_option maxRecDepth 100000

def FrM (w : World) (f B : Nat) (i o : Int) : Prop := w.heap[f]? = some (.cells #[.bool true, .int .i64 0, .int .u16 i, .int .u16 o, .pointer (some ⟨B, 0, none⟩)] 119 (0, 0))
theorem FrM.c {w : World} {f B : Nat} {i o : Int} (h : FrM w f B i o) : w.cell? ⟨f, 0, none⟩ = some (.bool true) ∧ w.cell? ⟨f, 1, none⟩ = some (.int .i64 0) ∧ w.cell? ⟨f, 2, none⟩ = some (.int .u16 i) ∧ w.cell? ⟨f, 3, none⟩ = some (.int .u16 o) ∧ w.cell? ⟨f, 4, none⟩ = some (.pointer (some ⟨B, 0, none⟩)) := by
  unfold FrM at h
  refine ⟨?_, ?_, ?_, ?_, ?_⟩ <;> simp [World.cell?, h]
theorem FrM.f {w : World} {f B : Nat} {i o : Int} (h : FrM w f B i o) (j : Nat) : w.frozen? ⟨f, j, none⟩ = false := row_free (l := [.bool true, .int .i64 0, .int .u16 i, .int .u16 o, .pointer (some ⟨B, 0, none⟩)]) h j
theorem FrM.kept {Q : Nat → Prop} {w w' : World} {f B : Nat} {i o : Int} (h : FrM w f B i o) (hm : Mod Q w w') (hq : ¬ Q f) : FrM w' f B i o := hm.blk h hq
theorem FrM.no {w w' : World} {f B : Nat} {i o : Int} (h : FrM w f B i o) (hm : Mod No w w') : FrM w' f B i o := h.kept hm (fun q => q)
theorem FrM.lt {w : World} {f B : Nat} {i o : Int} (h : FrM w f B i o) : f < w.heap.size := lt_of_blk h
theorem FrM.setI {w : World} {f B : Nat} {i o : Int} (h : FrM w f B i o) (x : Int) : FrM (w.setCell ⟨f, 2, none⟩ (.int .u16 x)) f B x o := row_set (l := [.bool true, .int .i64 0, .int .u16 i, .int .u16 o, .pointer (some ⟨B, 0, none⟩)]) h 2 _
theorem FrM.setO {w : World} {f B : Nat} {i o : Int} (h : FrM w f B i o) (x : Int) : FrM (w.setCell ⟨f, 3, none⟩ (.int .u16 x)) f B i x := row_set (l := [.bool true, .int .i64 0, .int .u16 i, .int .u16 o, .pointer (some ⟨B, 0, none⟩)]) h 3 _
theorem FrM.neF {w : World} {f B F : Nat} {i o : Int} {S : List Fr} (h : FrM w f B i o) (hp : PhM w B F S) : f ≠ F ∧ f ≠ B := by
  obtain ⟨r, hr⟩ := hp.row
  obtain ⟨c, _, hc⟩ := hp.head
  unfold FrM at h
  exact ⟨fun e => by rw [← e, h] at hr; simp at hr, fun e => by rw [← e, h] at hc; simp at hc⟩

/-- The front end and its machine. -/
structure FV (B F f : Nat) (g : List Int) (i o : Int) (w : World) : Prop where
  p : PhM w B F (pgF g)
  fr : FrM w f B i o
theorem FV.no {w w' : World} {B F f : Nat} {g : List Int} {i o : Int} (h : FV B F f g i o w) (hm : Mod No w w') : FV B F f g i o w' := ⟨h.p.kept hm (fun q => q) (fun q => q), h.fr.no hm⟩
theorem FV.wrote {w w' : World} {B F f : Nat} {g g' : List Int} {i o : Int} (h : FV B F f g i o w) (hm : Mod (One F) w w') (hp : PhM w' B F (pgF g')) : FV B F f g' i o w' := ⟨hp, h.fr.kept hm (fun (q : f = F) => (h.fr.neF h.p).1 q)⟩
theorem FV.setI {w : World} {B F f : Nat} {g : List Int} {i o : Int} (h : FV B F f g i o w) (y : Int) : FV B F f g y o (w.setCell ⟨f, 2, none⟩ (.int .u16 y)) ∧ Mod (One f) w (w.setCell ⟨f, 2, none⟩ (.int .u16 y)) := by
  have hm : Mod (One f) w (w.setCell ⟨f, 2, none⟩ (.int .u16 y)) := (Mod.refl _ w).set1 2 _
  exact ⟨⟨h.p.kept hm (fun (q : B = f) => (h.fr.neF h.p).2 q.symm) (fun (q : F = f) => (h.fr.neF h.p).1 q.symm), h.fr.setI y⟩, hm⟩
theorem FV.setO {w : World} {B F f : Nat} {g : List Int} {i o : Int} (h : FV B F f g i o w) (y : Int) : FV B F f g i y (w.setCell ⟨f, 3, none⟩ (.int .u16 y)) ∧ Mod (One f) w (w.setCell ⟨f, 3, none⟩ (.int .u16 y)) := by
  have hm : Mod (One f) w (w.setCell ⟨f, 3, none⟩ (.int .u16 y)) := (Mod.refl _ w).set1 3 _
  exact ⟨⟨h.p.kept hm (fun (q : B = f) => (h.fr.neF h.p).2 q.symm) (fun (q : F = f) => (h.fr.neF h.p).1 q.symm), h.fr.setO y⟩, hm⟩
def P2 (F f : Nat) : Nat → Prop := fun i => i = F ∨ i = f

theorem fnone_made {f B : Nat} {i o : Int} (w : World) (h : FrM w f B i o) : Calls Try.prog 109 #[.pointer (some ⟨f, 0, none⟩)] w fun e w' => e = .returned (.bool false) ∧ w = w' := by
  obtain ⟨c0, _⟩ := h.c
  go_enter Try.func109, Try.ntmps109
  go_wp2
  go_ret
  exact ⟨rfl, rfl⟩

theorem froom_made {f B : Nat} {i o : Int} (w : World) (h : FrM w f B i o) : Calls Try.prog 64 #[.pointer (some ⟨f, 0, none⟩)] w fun e w' => e = .returned (.int .i64 (8 - (i - o) % 65536)) ∧ Mod No w w' := by
  have HN := Lib.hid (fnone_made w h)
  have HB := Lib.hid (between_any 0 i o w)
  obtain ⟨d, hd⟩ : ∃ d, d = (i - o) % 65536 := ⟨_, rfl⟩
  have hd0 : 0 ≤ d ∧ d ≤ 65535 := by omega
  rw [← hd] at HB ⊢
  obtain ⟨c0, c1, c2, c3, c4⟩ := h.c
  clear hd h
  go_enter Try.func64, Try.ntmps64
  go_wp2_with (first
    | (go_at_call 109; refine HN.out.mono ?_; rintro e w' ⟨rfl, rfl⟩)
    | (go_at_call 102; refine HB.out.mono ?_; rintro e w1 ⟨rfl, hm1⟩))
  go_ret
  exact ⟨rfl, hm1⟩

theorem fopen_in {B F : Nat} {S : List Fr} {x : Fr} (w : World) (h : PhM w B F S) (hx : S[0]? = some x) :
    Calls Try.prog 62 #[.pointer (some ⟨B, 0, none⟩), .int .i64 0] w fun e w' => ∃ f, e = .returned (.tuple #[.pointer (some ⟨f, 0, none⟩), .int .i64 0]) ∧ Mod No w w' ∧ w.heap.size ≤ f ∧ FrM w' f B 0 0 := by
  have HF := Lib.hid (frame_in 0 x w h (by omega) hx)
  clear h hx
  go_enter Try.func62, Try.ntmps62
  go_wp2_with fail
  refine HF.out.mono ?_
  rintro e w1 ⟨rfl, hm⟩
  go_wp2
  go_ret2
  refine ⟨_, rfl, (hm.alloc _).alloc _, ?_, ?_⟩
  · have := hm.size; omega
  · have := heap_alloc_new (w1.alloc (.cells #[.int .i64 x.owner, .int .i64 x.type, .int .i64 x.count, .int .i64 x.total] 133)) (.cells #[.bool true, .int .i64 0, .int .u16 0, .int .u16 0, .pointer (some ⟨B, 0, none⟩)] 119)
    rwa [World.size_alloc] at this

set_option maxHeartbeats 4000000 in
theorem fput_full {B F f : Nat} {g : List Int} {i o : Int} (q : Option Addr) (c : Nat) (w : World) (h : FV B F f g i o w) (hi : 0 ≤ i ∧ i ≤ 65535) (hr : (i - o) % 65536 = 8) :
    Calls Try.prog 63 #[.pointer (some ⟨f, 0, none⟩), .slice q 16 c] w fun e w' => e = .returned (.int .i64 71) ∧ Mod No w w' := by
  have HN := Lib.hid (fnone_made w h.fr)
  have HSL := Lib.hid (slotQ_any 16 i w (by omega) hi)
  have HRM : Hid (∀ w', Mod No w w' → _) := fun w' hm => froom_made w' (h.fr.no hm)
  rw [hr] at HRM
  obtain ⟨c0, c1, c2, c3, c4⟩ := h.fr.c
  obtain ⟨sl, hsl⟩ : ∃ sl, sl = 16 + 16 * (i % 8) := ⟨_, rfl⟩
  rw [← hsl] at HSL
  have hs2 : 16 ≤ sl ∧ sl ≤ 128 := by omega
  clear hsl h hr
  go_enter Try.func63, Try.ntmps63
  go_wp2_with (first
    | (go_at_call 109; refine HN.out.mono ?_; rintro e w' ⟨rfl, rfl⟩)
    | (go_at_call 103; refine HSL.out.mono ?_; rintro e w1 ⟨rfl, hm1⟩)
    | (go_at_call 64; refine (HRM.out _ hm1).mono ?_; rintro e w2 ⟨rfl, hm2⟩))
  go_ret
  exact ⟨rfl, hm1.trans hm2⟩

set_option maxHeartbeats 8000000 in
theorem fput_ok {B F f : Nat} {g : List Int} {i o : Int} (q : Option Addr) (c : Nat) (bs : List Int) (w : World) (h : FV B F f g i o w) (hi : 0 ≤ i ∧ i ≤ 65535) (hr : (i - o) % 65536 < 8) (hl : bs.length = 16) (hs : Src w q bs) :
    Calls Try.prog 63 #[.pointer (some ⟨f, 0, none⟩), .slice q 16 c] w fun e w' => e = .returned (.int .i64 0) ∧ FV B F f (splice (splice g (16 + 16 * (i % 8)).toNat bs) 0 (twoB ((i + 1) % 65536))) ((i + 1) % 65536) o w' ∧ Mod (P2 F f) w w' := by
  have HN := Lib.hid (fnone_made w h.fr)
  have HSL := Lib.hid (slotQ_any 16 i w (by omega) hi)
  have HRM : Hid (∀ w', Mod No w w' → _) := fun w' hm => froom_made w' (h.fr.no hm)
  obtain ⟨d, hd⟩ : ∃ d, d = (i - o) % 65536 := ⟨_, rfl⟩
  have hd0 : 0 ≤ d ∧ d < 8 := by omega
  rw [← hd] at HRM
  have HFV := Lib.hid h
  obtain ⟨c0, c1, c2, c3, c4⟩ := h.fr.c
  obtain ⟨sl, hsl⟩ : ∃ sl, sl = 16 + 16 * (i % 8) := ⟨_, rfl⟩
  rw [← hsl] at HSL ⊢
  have hs2 : 16 ≤ sl ∧ sl ≤ 128 := by omega
  have HW1 : Hid (∀ w', Mod No w w' → Calls Try.prog 18 #[.pointer (some ⟨B, 0, none⟩), .int .i64 0, .int .i64 sl, .slice q 16 c] w' fun e w2 => e = .returned (.int .i64 0) ∧ Mod (One F) w' w2 ∧ PhM w2 B F (pgF (splice g sl.toNat bs))) := fun w' hm => by
    have h1 := pwrite_any 0 sl q c bs w' (h.no hm).p (hs.kept hm (fun _ _ _ q => q))
    rw [(wr_pg (by omega) (by omega)).1, (wr_pg (by omega) (by omega)).2, hl] at h1
    exact h1
  obtain ⟨y, hy⟩ : ∃ y, y = (i + 1) % 65536 := ⟨_, rfl⟩
  have hyw : IntKind.u16.wrap (i + 1) = y := by rw [hy]; rfl
  have hyr : 0 ≤ y ∧ y ≤ 65535 := by omega
  rw [← hy]
  have HTW := Lib.hid (fun w' => two_any y w' hyr)
  have hz : (8 - d == 0) = false := beq_eq_false_iff_ne.2 (by omega)
  clear hsl h hr hd hy hs
  go_enter Try.func63, Try.ntmps63
  go_upto_region 8 with (first
    | (go_at_call 109; refine HN.out.mono ?_; rintro e w' ⟨rfl, rfl⟩)
    | (go_at_call 103; refine HSL.out.mono ?_; rintro e w1 ⟨rfl, hm1⟩)
    | (go_at_call 64; refine (HRM.out _ hm1).mono ?_; rintro e w2 ⟨rfl, hm2⟩))
  have HM2 := Lib.hid (hm1.trans hm2)
  clear hm1 hm2 c0 c1 c2 c3 c4 HN HSL HRM
  have hfv2 := HFV.out.no HM2.out
  have hne := hfv2.fr.neF hfv2.p
  have hlt := hfv2.fr.lt
  have HNE := Lib.hid hne
  have HLT := Lib.hid hlt
  have hcc := hfv2.fr.c
  have hS1 : (fun w' : World => w'.cell? ⟨f, 1, none⟩ = some (.int .i64 0) ∧ w'.cell? ⟨f, 4, none⟩ = some (.pointer (some ⟨B, 0, none⟩))) w2 := ⟨hcc.2.1, hcc.2.2.2.2⟩
  clear hcc hne hlt hfv2
  go_region_held3 (fun w' : World => w'.cell? ⟨f, 1, none⟩ = some (.int .i64 0) ∧ w'.cell? ⟨f, 4, none⟩ = some (.pointer (some ⟨B, 0, none⟩))) (first | exact hS1 | assumption) ((go_at_call 18; refine (HW1.out _ (HM2.out.trans (Mod.refl No w2).drew)).mono ?_; rintro e w3 ⟨rfl, hm3, hp3⟩; have hfv3 := (HFV.out.no (HM2.out.trans (Mod.refl No w2).drew)).wrote hm3 hp3; have hS3 : (fun w' : World => w'.cell? ⟨f, 1, none⟩ = some (.int .i64 0) ∧ w'.cell? ⟨f, 4, none⟩ = some (.pointer (some ⟨B, 0, none⟩))) w3 := ⟨hfv3.fr.c.2.1, hfv3.fr.c.2.2.2.2⟩; have HFV3 := Lib.hid hfv3; have HM3 := Lib.hid hm3; clear hfv3 hm3 hp3))
  obtain ⟨c0, c1, c2, c3, c4⟩ := HFV3.out.fr.c
  have f2 := HFV3.out.fr.f 2
  clear hS1 hS3
  go_upto_region 10 with (fail)
  obtain ⟨hfv4, hm4⟩ := HFV3.out.setI y
  have hM4 : Mod (P2 F f) w (w3.setCell ⟨f, 2, none⟩ (.int .u16 y)) := ((Mod.of_no (HM2.out.trans (Mod.refl No w2).drew)).trans (HM3.out.mono (fun i _ (q : i = F) => .inl q))).trans (hm4.mono (fun i _ (q : i = f) => .inr q))
  have HFV4 := Lib.hid hfv4
  have HM4 := Lib.hid hM4
  clear hfv4 hm4 hM4 c0 c1 c2 c3 c4 f2 HFV3 HM3 HM2 HNE HLT HW1 HFV
  generalize (w3.setCell ⟨f, 2, none⟩ (.int .u16 y)) = w4 at HFV4 HM4 ⊢
  have hcc := HFV4.out.fr.c
  have HLT : Hid (f < w4.heap.size) := HFV4.out.fr.lt
  have hS4 : (fun w' : World => w'.cell? ⟨f, 1, none⟩ = some (.int .i64 0) ∧ w'.cell? ⟨f, 2, none⟩ = some (.int .u16 y) ∧ w'.cell? ⟨f, 4, none⟩ = some (.pointer (some ⟨B, 0, none⟩))) w4 := ⟨hcc.2.1, hcc.2.2.1, hcc.2.2.2.2⟩
  clear hcc
  go_region_held3 (fun w' : World => w'.cell? ⟨f, 1, none⟩ = some (.int .i64 0) ∧ w'.cell? ⟨f, 2, none⟩ = some (.int .u16 y) ∧ w'.cell? ⟨f, 4, none⟩ = some (.pointer (some ⟨B, 0, none⟩))) (first | exact hS4 | assumption) (first
    | (go_at_call 105; refine (HTW.out _).mono ?_; rintro e w6 ⟨rfl, hm6, hs6, hg6⟩; have hS6 : (fun w' : World => w'.cell? ⟨f, 1, none⟩ = some (.int .i64 0) ∧ w'.cell? ⟨f, 2, none⟩ = some (.int .u16 y) ∧ w'.cell? ⟨f, 4, none⟩ = some (.pointer (some ⟨B, 0, none⟩))) w6 := ⟨(World.cell?_of_block (w := w4) (hm6.block f HLT.out (fun q => q))).trans hS4.1, (World.cell?_of_block (w := w4) (hm6.block f HLT.out (fun q => q))).trans hS4.2.1, (World.cell?_of_block (w := w4) (hm6.block f HLT.out (fun q => q))).trans hS4.2.2⟩; have HM6 := Lib.hid hm6; have HG6 := Lib.hid hg6; clear hm6 hg6 hs6)
    | (go_at_call 18; have hpw := pwrite_any 0 0 (some ⟨w4.heap.size, 0, none⟩) 2 (twoB y) w6 (HFV4.out.no ((Mod.refl No w4).drew.trans HM6.out)).p (Src.row HG6.out (twoB_range hyr)); rw [(wr_pg (by omega) (by simp [twoB])).1, (wr_pg (by omega) (by simp [twoB])).2] at hpw; refine hpw.mono ?_; rintro e w7 ⟨rfl, hm7, hp7⟩; have hfv7 := (HFV4.out.no ((Mod.refl No w4).drew.trans HM6.out)).wrote hm7 hp7; have hS7 : (fun w' : World => w'.cell? ⟨f, 1, none⟩ = some (.int .i64 0) ∧ w'.cell? ⟨f, 2, none⟩ = some (.int .u16 y) ∧ w'.cell? ⟨f, 4, none⟩ = some (.pointer (some ⟨B, 0, none⟩))) w7 := ⟨hfv7.fr.c.2.1, hfv7.fr.c.2.2.1, hfv7.fr.c.2.2.2.2⟩; have HFV7 := Lib.hid hfv7; have HM7 := Lib.hid hm7; clear hfv7 hm7 hp7 hpw))
  go_wp2
  go_ret
  exact ⟨rfl, HFV7.out, (HM4.out.trans (Mod.of_no ((Mod.refl No w4).drew.trans HM6.out))).trans (HM7.out.mono (fun i _ (q : i = F) => .inl q))⟩

/-- Get, where there is nothing to get. -/
theorem fget_state {B F f : Nat} {g : List Int} {i o : Int} (w : World) (h : FV B F f g i o w) (hr : (i - o) % 65536 = 0) :
    Calls Try.prog 61 #[.pointer (some ⟨f, 0, none⟩)] w fun e w' => e = .returned (.tuple #[.slice none 0 0, .int .i64 5]) ∧ Mod No w w' := by
  have HN := Lib.hid (fnone_made w h.fr)
  have HB := Lib.hid (between_any 0 i o w)
  rw [hr] at HB
  obtain ⟨c0, c1, c2, c3, c4⟩ := h.fr.c
  clear h hr
  go_enter Try.func61, Try.ntmps61
  go_wp2_with (first
    | (go_at_call 109; refine HN.out.mono ?_; rintro e w' ⟨rfl, rfl⟩)
    | (go_at_call 102; refine HB.out.mono ?_; rintro e w1 ⟨rfl, hm1⟩))
  go_ret2
  exact ⟨rfl, hm1⟩

set_option maxHeartbeats 8000000 in
theorem fget_short {B F f : Nat} {g : List Int} {i o : Int} (w : World) (h : FV B F f g i o w) (hr : (i - o) % 65536 ≠ 0) (hw : word2 ((g.drop 2).take 2) = o) :
    Calls Try.prog 61 #[.pointer (some ⟨f, 0, none⟩)] w fun e w' => e = .returned (.tuple #[.slice none 0 0, .int .i64 3]) ∧ Mod No w w' := by
  have HN := Lib.hid (fnone_made w h.fr)
  have HB := Lib.hid (between_any 0 i o w)
  obtain ⟨d, hd⟩ : ∃ d, d = (i - o) % 65536 := ⟨_, rfl⟩
  rw [← hd] at HB hr
  have d0 : (d == 0) = false := beq_eq_false_iff_ne.2 hr
  have hd0 : 0 ≤ d ∧ d ≤ 65535 := by omega
  obtain ⟨hgl, hgr⟩ : g.length = 256 ∧ ∀ x ∈ g, 0 ≤ x ∧ x ≤ 255 := h.p.ok { ownFr with bytes := g } (by simp [pgF])
  obtain ⟨b0, b1, hb, r0, r1⟩ : ∃ b0 b1 : Int, (g.drop 2).take 2 = [b0, b1] ∧ (0 ≤ b0 ∧ b0 ≤ 255) ∧ (0 ≤ b1 ∧ b1 ≤ 255) := by
    have hln : ((g.drop 2).take 2).length = 2 := by rw [List.length_take, List.length_drop, hgl]; omega
    have hm : ∀ x ∈ (g.drop 2).take 2, 0 ≤ x ∧ x ≤ 255 := fun x hx => hgr x (List.mem_of_mem_drop (List.mem_of_mem_take hx))
    match hq : (g.drop 2).take 2, hln with
    | [b0, b1], _ =>
      rw [hq] at hm
      exact ⟨b0, b1, rfl, hm b0 (by simp), hm b1 (by simp)⟩
  rw [hb, show word2 [b0, b1] = b0 + 256 * b1 from rfl] at hw
  have HE := Lib.hid (or16 r0 r1)
  have HR2 : Hid (∀ w', Mod No w w' → Calls Try.prog 44 #[.pointer (some ⟨B, 0, none⟩), .int .i64 0, .int .i64 2, .int .i64 2] w' fun e w2 => e = .returned (.tuple #[.slice (some ⟨w'.heap.size, 0, none⟩) 2 2, .int .i64 0]) ∧ Mod No w' w2 ∧ w'.heap.size < w2.heap.size ∧ w2.heap[w'.heap.size]? = some (.cells #[.int .u8 b0, .int .u8 b1] 5 (0, 0))) := fun w' hm => by
    have h1 := read_in 0 2 2 { ownFr with bytes := g } w' (h.no hm).p ⟨by simp [pgF], by omega, by omega, by omega⟩ rfl
    rw [show (({ ownFr with bytes := g } : Fr).bytes.drop (2 : Int).toNat).take (2 : Int).toNat = [b0, b1] from hb] at h1
    exact h1
  have HFV := Lib.hid h
  obtain ⟨c0, c1, c2, c3, c4⟩ := h.fr.c
  clear hd hr hb hgl hgr
  have d3 : (Go.bits .or .u16 b0 (b1 * 256) == o) = true := by rw [HE.out, hw]; exact beq_self_eq_true _
  clear h
  go_enter Try.func61, Try.ntmps61
  go_upto_region 5 with (first
    | (go_at_call 109; refine HN.out.mono ?_; rintro e w' ⟨rfl, rfl⟩)
    | (go_at_call 102; refine HB.out.mono ?_; rintro e w1 ⟨rfl, hm1⟩))
  have HM1 := Lib.hid hm1
  clear hm1 c0 c1 c2 c3 c4 HN HB
  have hfv1 := HFV.out.no HM1.out
  have hlt := hfv1.fr.lt
  have HLT := Lib.hid hlt
  have hcc := hfv1.fr.c
  have hS1 : (fun w' : World => w'.cell? ⟨f, 1, none⟩ = some (.int .i64 0) ∧ w'.cell? ⟨f, 4, none⟩ = some (.pointer (some ⟨B, 0, none⟩))) w1 := ⟨hcc.2.1, hcc.2.2.2.2⟩
  clear hcc hlt hfv1
  go_region_held3 (fun w' : World => w'.cell? ⟨f, 1, none⟩ = some (.int .i64 0) ∧ w'.cell? ⟨f, 4, none⟩ = some (.pointer (some ⟨B, 0, none⟩))) (first | exact hS1 | assumption) ((go_at_call 44; refine (HR2.out _ (HM1.out.trans (Mod.refl No w1).drew)).mono ?_; rintro e w3 ⟨rfl, hm3, hs3, hg3⟩; have hfv3 := HFV.out.no ((HM1.out.trans (Mod.refl No w1).drew).trans hm3); have hS3 : (fun w' : World => w'.cell? ⟨f, 1, none⟩ = some (.int .i64 0) ∧ w'.cell? ⟨f, 4, none⟩ = some (.pointer (some ⟨B, 0, none⟩))) w3 := ⟨hfv3.fr.c.2.1, hfv3.fr.c.2.2.2.2⟩; have HFV3 := Lib.hid hfv3; have HM3 := Lib.hid ((HM1.out.trans (Mod.refl No w1).drew).trans hm3); have HG3 : Hid (w3.heap[w1.heap.size]? = some (.cells #[.int .u8 b0, .int .u8 b1] 5 (0, 0))) := hg3; clear hfv3 hm3 hg3 hs3))
  clear hS1 hS3
  obtain ⟨c0, c1, c2, c3, c4⟩ := HFV3.out.fr.c
  have f3 := HFV3.out.fr.f 3
  have x0 := row_cell (l := [Value.int .u8 b0, .int .u8 b1]) HG3.out 0
  have x1 := row_cell (l := [Value.int .u8 b0, .int .u8 b1]) HG3.out 1
  simp only [List.getElem?_cons_zero, List.getElem?_cons_succ] at x0 x1
  go_wp2_with fail
  go_quiet (fail)
  go_wp2
  go_ret2
  exact ⟨rfl, HM3.out.drewN _⟩

set_option maxHeartbeats 8000000 in
theorem fget_ok {B F f : Nat} {g : List Int} {i o : Int} (w : World) (h : FV B F f g i o w) (ho : 0 ≤ o ∧ o ≤ 65535) (hr : (i - o) % 65536 ≠ 0) (hw : word2 ((g.drop 2).take 2) ≠ o) :
    Calls Try.prog 61 #[.pointer (some ⟨f, 0, none⟩)] w fun e w' => ∃ gr, e = .returned (.tuple #[.slice (some ⟨gr, 0, none⟩) 8 8, .int .i64 0]) ∧ w.heap.size ≤ gr ∧ gr < w'.heap.size ∧
      w'.heap[gr]? = some (.cells (((g.drop (144 + 8 * (o % 8)).toNat).take 8).map (Value.int .u8)).toArray 5 (0, 0)) ∧ FV B F f g i ((o + 1) % 65536) w' ∧ Mod (One f) w w' := by
  have HN := Lib.hid (fnone_made w h.fr)
  have HB := Lib.hid (between_any 0 i o w)
  obtain ⟨d, hd⟩ : ∃ d, d = (i - o) % 65536 := ⟨_, rfl⟩
  rw [← hd] at HB hr
  have d0 : (d == 0) = false := beq_eq_false_iff_ne.2 hr
  have hd0 : 0 ≤ d ∧ d ≤ 65535 := by omega
  obtain ⟨hgl, hgr⟩ : g.length = 256 ∧ ∀ x ∈ g, 0 ≤ x ∧ x ≤ 255 := h.p.ok { ownFr with bytes := g } (by simp [pgF])
  obtain ⟨b0, b1, hb, r0, r1⟩ : ∃ b0 b1 : Int, (g.drop 2).take 2 = [b0, b1] ∧ (0 ≤ b0 ∧ b0 ≤ 255) ∧ (0 ≤ b1 ∧ b1 ≤ 255) := by
    have hln : ((g.drop 2).take 2).length = 2 := by rw [List.length_take, List.length_drop, hgl]; omega
    have hm : ∀ x ∈ (g.drop 2).take 2, 0 ≤ x ∧ x ≤ 255 := fun x hx => hgr x (List.mem_of_mem_drop (List.mem_of_mem_take hx))
    match hq : (g.drop 2).take 2, hln with
    | [b0, b1], _ =>
      rw [hq] at hm
      exact ⟨b0, b1, rfl, hm b0 (by simp), hm b1 (by simp)⟩
  rw [hb, show word2 [b0, b1] = b0 + 256 * b1 from rfl] at hw
  have HE := Lib.hid (or16 r0 r1)
  have HR2 : Hid (∀ w', Mod No w w' → Calls Try.prog 44 #[.pointer (some ⟨B, 0, none⟩), .int .i64 0, .int .i64 2, .int .i64 2] w' fun e w2 => e = .returned (.tuple #[.slice (some ⟨w'.heap.size, 0, none⟩) 2 2, .int .i64 0]) ∧ Mod No w' w2 ∧ w'.heap.size < w2.heap.size ∧ w2.heap[w'.heap.size]? = some (.cells #[.int .u8 b0, .int .u8 b1] 5 (0, 0))) := fun w' hm => by
    have h1 := read_in 0 2 2 { ownFr with bytes := g } w' (h.no hm).p ⟨by simp [pgF], by omega, by omega, by omega⟩ rfl
    rw [show (({ ownFr with bytes := g } : Fr).bytes.drop (2 : Int).toNat).take (2 : Int).toNat = [b0, b1] from hb] at h1
    exact h1
  have HFV := Lib.hid h
  obtain ⟨c0, c1, c2, c3, c4⟩ := h.fr.c
  clear hd hr hb hgl hgr
  have d3 : (Go.bits .or .u16 b0 (b1 * 256) == o) = false := by rw [HE.out]; exact beq_eq_false_iff_ne.2 hw
  obtain ⟨sl, hsl⟩ : ∃ sl, sl = 144 + 8 * (o % 8) := ⟨_, rfl⟩
  have HSL := Lib.hid (fun w' => slotR_any 144 o w' (by omega) ho)
  rw [← hsl] at HSL ⊢
  have hs2 : 144 ≤ sl ∧ sl ≤ 200 := by omega
  obtain ⟨y, hy⟩ : ∃ y, y = (o + 1) % 65536 := ⟨_, rfl⟩
  have hyw : IntKind.u16.wrap (o + 1) = y := by rw [hy]; rfl
  rw [← hy]
  obtain ⟨ans, hans⟩ : ∃ ans, ans = (g.drop sl.toNat).take 8 := ⟨_, rfl⟩
  have HR8 : Hid (∀ w', PhM w' B F (pgF g) → Calls Try.prog 44 #[.pointer (some ⟨B, 0, none⟩), .int .i64 0, .int .i64 sl, .int .i64 8] w' fun e w2 => e = .returned (.tuple #[.slice (some ⟨w'.heap.size, 0, none⟩) 8 8, .int .i64 0]) ∧ Mod No w' w2 ∧ w'.heap.size < w2.heap.size ∧ w2.heap[w'.heap.size]? = some (.cells (ans.map (Value.int .u8)).toArray 5 (0, 0))) := fun w' hp => by
    have h1 := read_in 0 sl 8 { ownFr with bytes := g } w' hp ⟨by simp [pgF], by omega, by omega, by omega⟩ rfl
    rw [show (({ ownFr with bytes := g } : Fr).bytes.drop sl.toNat).take (8 : Int).toNat = ans from hans.symm] at h1
    exact h1
  rw [← hans]
  clear hsl hy hans
  clear h
  go_enter Try.func61, Try.ntmps61
  go_upto_region 5 with (first
    | (go_at_call 109; refine HN.out.mono ?_; rintro e w' ⟨rfl, rfl⟩)
    | (go_at_call 102; refine HB.out.mono ?_; rintro e w1 ⟨rfl, hm1⟩))
  have HM1 := Lib.hid hm1
  clear hm1 c0 c1 c2 c3 c4 HN HB
  have hfv1 := HFV.out.no HM1.out
  have hlt := hfv1.fr.lt
  have HLT := Lib.hid hlt
  have hcc := hfv1.fr.c
  have hS1 : (fun w' : World => w'.cell? ⟨f, 1, none⟩ = some (.int .i64 0) ∧ w'.cell? ⟨f, 4, none⟩ = some (.pointer (some ⟨B, 0, none⟩))) w1 := ⟨hcc.2.1, hcc.2.2.2.2⟩
  clear hcc hlt hfv1
  go_region_held3 (fun w' : World => w'.cell? ⟨f, 1, none⟩ = some (.int .i64 0) ∧ w'.cell? ⟨f, 4, none⟩ = some (.pointer (some ⟨B, 0, none⟩))) (first | exact hS1 | assumption) ((go_at_call 44; refine (HR2.out _ (HM1.out.trans (Mod.refl No w1).drew)).mono ?_; rintro e w3 ⟨rfl, hm3, hs3, hg3⟩; have hfv3 := HFV.out.no ((HM1.out.trans (Mod.refl No w1).drew).trans hm3); have hS3 : (fun w' : World => w'.cell? ⟨f, 1, none⟩ = some (.int .i64 0) ∧ w'.cell? ⟨f, 4, none⟩ = some (.pointer (some ⟨B, 0, none⟩))) w3 := ⟨hfv3.fr.c.2.1, hfv3.fr.c.2.2.2.2⟩; have HFV3 := Lib.hid hfv3; have HM3 := Lib.hid ((HM1.out.trans (Mod.refl No w1).drew).trans hm3); have HG3 : Hid (w3.heap[w1.heap.size]? = some (.cells #[.int .u8 b0, .int .u8 b1] 5 (0, 0))) := hg3; clear hfv3 hm3 hg3 hs3))
  clear hS1 hS3
  obtain ⟨c0, c1, c2, c3, c4⟩ := HFV3.out.fr.c
  have f3 := HFV3.out.fr.f 3
  have x0 := row_cell (l := [Value.int .u8 b0, .int .u8 b1]) HG3.out 0
  have x1 := row_cell (l := [Value.int .u8 b0, .int .u8 b1]) HG3.out 1
  simp only [List.getElem?_cons_zero, List.getElem?_cons_succ] at x0 x1
  go_wp2_with fail
  go_quiet (fail)
  have HM4 := Lib.hid (HM3.out.drewN nq)
  have HFV4 := Lib.hid (HFV.out.no HM4.out)
  clear c0 c1 c2 c3 c4 f3 x0 x1 HFV3 HM3 HM1 HG3 HFV HLT HR2
  generalize w3.drewN nq = w4 at HM4 HFV4 ⊢
  obtain ⟨c0, c1, c2, c3, c4⟩ := HFV4.out.fr.c
  go_wp2_with fail
  refine (HSL.out _).mono ?_
  rintro e w5 ⟨rfl, hm5⟩
  have HM5 := Lib.hid (HM4.out.trans hm5)
  have HFV5 := Lib.hid (HFV4.out.no hm5)
  clear c0 c1 c2 c3 c4 hm5 HFV4 HM4
  obtain ⟨c0, c1, c2, c3, c4⟩ := HFV5.out.fr.c
  have f3 := HFV5.out.fr.f 3
  obtain ⟨hfv6, hm6⟩ := HFV5.out.setO y
  have hM6 : Mod (One f) w (w5.setCell ⟨f, 3, none⟩ (.int .u16 y)) := (Mod.of_no HM5.out).trans hm6
  have HFV6 := Lib.hid hfv6
  have HM6 := Lib.hid hM6
  clear hfv6 hm6 hM6
  go_upto_region 12 with (fail)
  clear c0 c1 c2 c3 c4 f3 HFV5 HM5
  generalize (w5.setCell ⟨f, 3, none⟩ (.int .u16 y)) = w6 at HFV6 HM6 ⊢
  have hcc := HFV6.out.fr.c
  have hS6 : (fun w' : World => w'.cell? ⟨f, 1, none⟩ = some (.int .i64 0) ∧ w'.cell? ⟨f, 4, none⟩ = some (.pointer (some ⟨B, 0, none⟩))) w6 := ⟨hcc.2.1, hcc.2.2.2.2⟩
  clear hcc
  go_region_held3 (fun w' : World => w'.cell? ⟨f, 1, none⟩ = some (.int .i64 0) ∧ w'.cell? ⟨f, 4, none⟩ = some (.pointer (some ⟨B, 0, none⟩))) (first | exact hS6 | assumption) ((go_at_call 44; refine (HR8.out _ (HFV6.out.no (Mod.refl No w6).drew).p).mono ?_; rintro e w7 ⟨rfl, hm7, hs7, hg7⟩; have hfv7 := HFV6.out.no ((Mod.refl No w6).drew.trans hm7); have hS7 : (fun w' : World => w'.cell? ⟨f, 1, none⟩ = some (.int .i64 0) ∧ w'.cell? ⟨f, 4, none⟩ = some (.pointer (some ⟨B, 0, none⟩))) w7 := ⟨hfv7.fr.c.2.1, hfv7.fr.c.2.2.2.2⟩; have HFV7 := Lib.hid hfv7; have HM7 := Lib.hid (HM6.out.trans (Mod.of_no ((Mod.refl No w6).drew.trans hm7))); have HG7 : Hid (w7.heap[w6.heap.size]? = some (.cells (ans.map (Value.int .u8)).toArray 5 (0, 0))) := hg7; clear hfv7 hm7 hg7 hs7))
  go_wp2
  go_ret2
  exact ⟨_, rfl, HM6.out.size, lt_of_blk HG7.out, HG7.out, HFV7.out, HM7.out⟩

end Go.Proofs.Ytpfjpfepbhfmeaa
