/- tenementlaw08.play: the views; Look. -/
import Derived.Test.YtpfjpfepbhfmeaaLaw08Duo
import Derived.Deep.RegionHeld3
import Derived.BigQuiet
namespace Go.Proofs.Ytpfjpfepbhfmeaa
open Go.RowKit
set_option maxRecDepth 100000

def OpBox8 (w : World) (bx : Nat) (what off : Int) (bq : Option Addr) (bn bc : Nat) (pq : Option Addr) (pn pc : Nat) : Prop :=
  w.heap[bx]? = some (.cells #[.int .i64 what, .int .i64 off, .slice bq bn bc, .slice pq pn pc] 108 (0, 0))
theorem OpBox8.cells {w : World} {bx : Nat} {what off : Int} {bq : Option Addr} {bn bc : Nat} {pq : Option Addr} {pn pc : Nat} (h : OpBox8 w bx what off bq bn bc pq pn pc) :
    w.cell? ⟨bx, 0, none⟩ = some (.int .i64 what) ∧ w.cell? ⟨bx, 1, none⟩ = some (.int .i64 off) ∧ w.cell? ⟨bx, 2, none⟩ = some (.slice bq bn bc) ∧ w.cell? ⟨bx, 3, none⟩ = some (.slice pq pn pc) := by
  unfold OpBox8 at h
  refine ⟨?_, ?_, ?_, ?_⟩ <;> simp [World.cell?, h]
theorem OpBox8.no {w w' : World} {bx : Nat} {what off : Int} {bq : Option Addr} {bn bc : Nat} {pq : Option Addr} {pn pc : Nat} (h : OpBox8 w bx what off bq bn bc pq pn pc) (hm : Mod No w w') : OpBox8 w' bx what off bq bn bc pq pn pc := hm.blk h (fun q => q)

set_option maxHeartbeats 4000000 in
theorem play8_long {w0 : World} {B F b c : Nat} {K : RfK} {S : List Fr} {k : Bk} (what off : Int) (bq : Option Addr) (bn bc : Nat) (pq : Option Addr) (ps : List Pk) (pc : Nat) (w : World) (h : Eight w0 B F K b c S k w) (hl : 64 < ps.length) (hl2 : ps.length ≤ 140737488355328) :
    Calls Try.prog 57 #[.pointer (some ⟨B, 0, none⟩), .pointer (some ⟨K.R, 0, none⟩), .pointer (some ⟨b, 0, none⟩), .pointer (some ⟨c, 0, none⟩), .agg #[.int .i64 what, .int .i64 off, .slice bq bn bc, .slice pq ps.length pc]] w fun e w' => e = .returned (.bool true) ∧ Mod No w w' := by
  have hal : Mod No w (w.alloc (.cells #[.int .i64 what, .int .i64 off, .slice bq bn bc, .slice pq ps.length pc] 108)) := (Mod.refl No w).alloc _
  have hbx : OpBox8 (w.alloc (.cells #[.int .i64 what, .int .i64 off, .slice bq bn bc, .slice pq ps.length pc] 108)) w.heap.size what off bq bn bc pq ps.length pc := heap_alloc_new w _
  have h1 := h.no hal
  go_enter Try.func57, Try.ntmps57
  go_upto_region 1 with (fail)
  generalize (w.alloc (.cells #[.int .i64 what, .int .i64 off, .slice bq bn bc, .slice pq ps.length pc] 108)) = w1 at hal hbx h1 ⊢
  generalize w.heap.size = bx at hbx ⊢
  obtain ⟨z0, z1, z2, z3⟩ := hbx.cells
  have HV := Lib.hid (vnew_long pq ps.length pc w1 h1.rd.two.p hl hl2)
  have HRV := Lib.hid (rvnew_long (K := K) pq ps.length pc w1 hl hl2)
  clear h hbx h1
  go_wp2_with fail
  refine HV.out.mono ?_
  rintro e w2 ⟨rfl, rfl⟩
  go_wp2_with fail
  refine HRV.out.mono ?_
  rintro e w3 ⟨rfl, rfl⟩
  go_wp2
  go_ret
  exact ⟨rfl, hal⟩

set_option maxHeartbeats 8000000 in
theorem play8_look {w0 : World} {B F b c : Nat} {K : RfK} {S : List Fr} {k : Bk} (off : Int) (bq : Option Addr) (bn bc : Nat) (pq : Option Addr) (ps : List Pk) (pc : Nat) (w : World) (h : Eight w0 B F K b c S k w) (hps : PkS w0 pq ps) (hl : ps.length ≤ 64) :
    Calls Try.prog 57 #[.pointer (some ⟨B, 0, none⟩), .pointer (some ⟨K.R, 0, none⟩), .pointer (some ⟨b, 0, none⟩), .pointer (some ⟨c, 0, none⟩), .agg #[.int .i64 0, .int .i64 off, .slice bq bn bc, .slice pq ps.length pc]] w fun e w' => e = .returned (.bool true) ∧ ∃ S' k', k.Step k' ∧ Eight w0 B F K b c S' k' w' := by
  have hal : Mod No w (w.alloc (.cells #[.int .i64 0, .int .i64 off, .slice bq bn bc, .slice pq ps.length pc] 108)) := (Mod.refl No w).alloc _
  have hbx : OpBox8 (w.alloc (.cells #[.int .i64 0, .int .i64 off, .slice bq bn bc, .slice pq ps.length pc] 108)) w.heap.size 0 off bq bn bc pq ps.length pc := heap_alloc_new w _
  have h1 := h.no hal
  go_enter Try.func57, Try.ntmps57
  go_upto_region 1 with (fail)
  generalize (w.alloc (.cells #[.int .i64 0, .int .i64 off, .slice bq bn bc, .slice pq ps.length pc] 108)) = w1 at hal hbx h1 ⊢
  generalize w.heap.size = bx at hbx ⊢
  obtain ⟨z0, z1, z2, z3⟩ := hbx.cells
  have HBX := Lib.hid hbx
  have H1 := Lib.hid h1
  have HPS := Lib.hid hps
  clear h hbx h1 hps hal
  go_wp2_with fail
  refine (vnew_in pq ps pc w1 H1.out.rd.two.p (HPS.out.kept H1.out.rd.mod) hl).mono ?_
  rintro e w2 ⟨vk, rfl, hm2, hv2⟩
  clear z0 z1 z2 z3
  obtain ⟨z0, z1, z2, z3⟩ := (HBX.out.no hm2).cells
  go_wp2_with fail
  refine (rvnew_in (K := K) pq ps pc w2 hl).mono ?_
  rintro e w3 ⟨X, rfl, hX, hm3, hx3⟩
  have HD := Lib.hid (H1.out.views hm2 hv2 hX hm3 hx3)
  have HBX3 := Lib.hid (HBX.out.no (hm2.trans hm3))
  clear z0 z1 z2 z3 hm2 hm3 hv2 hX hx3
  generalize w1.heap.size = base at HD
  generalize w2.heap.size = top at HD
  obtain ⟨z0, z1, z2, z3⟩ := HBX3.out.cells
  have hlk := look_any w3 HD.out.cc ⟨by omega, by omega⟩ (by omega)
  have HST := Lib.hid (look_step k (pokes (dueAt ps 0) S))
  have HI1 : Hid (invS 0 (pokes (dueAt ps 0) S)) := invS_pokes _ H1.out.rd.two.inv
  have HL1 : Hid ((pokes (dueAt ps 0) S).length = 2) := by rw [pokes_len]; exact H1.out.rd.len
  have HRL : Hid (∀ w', RV w0 X K pq pc ps 0 S c k w' → _) := fun w' (hr : RV w0 X K pq pc ps 0 S c k w') => rlook_any w' hr HPS.out ⟨by omega, by omega⟩ (by omega)
  have HLK := Lib.hid hlk
  generalize pokes (dueAt ps 0) S = S1 at HLK HRL HST HI1 HL1
  generalize k.look S1 = lk at HLK HRL HST
  obtain ⟨⟨n, cl, er⟩, k1⟩ := lk
  dsimp only at HLK HRL HST
  clear hlk H1 HBX HBX3 z1 z2 z3
  go_wp2_with fail
  refine HLK.out.mono ?_
  rintro e w4 ⟨rfl, hc4, hm4⟩
  have HC4 := Lib.hid hc4
  have HM4 := Lib.hid hm4
  clear hc4 hm4 z0
  go_wp2_with fail
  refine (HRL.out _ (HD.out.mid HM4.out)).mono ?_
  rintro e w5 ⟨rfl, hr5, hm5⟩
  have hd5 := HD.out.pair HC4.out HM4.out (Mod.refl No _) hr5 hm5
  have HD5 := Lib.hid hd5
  obtain ⟨x0, x1, x2, _⟩ := hd5.rr.x.c
  have HRE : Hid (∀ n, Calls Try.prog 26 #[.pointer (some ⟨vk.V, 0, none⟩)] (w5.drewN n) fun e w' => e = .returned (.int .i64 (0 + 1)) ∧ w' = w5.drewN n) := fun n => (vreads_made ((HD5.out.no ((Mod.refl No w5).drewN n)).cc.v)).mono fun _ _ q => ⟨q.1, q.2.symm⟩
  clear hd5 hr5 hm5 HD HC4 HM4 HRL HLK
  have e1 : (n == n) = true := beq_self_eq_true n
  have e2 : (cl == cl) = true := beq_self_eq_true cl
  have e3 : (er == er) = true := beq_self_eq_true er
  go_wp2_with fail
  go_quiet ((go_at_call 26; exact Calls.quiet_of_same (HRE.out _)))
  go_wp2
  go_ret
  exact ⟨rfl, S1, k1, HST.out, (HD5.out.no ((Mod.refl No w5).drewN _)).back HL1.out HI1.out⟩

end Go.Proofs.Ytpfjpfepbhfmeaa
