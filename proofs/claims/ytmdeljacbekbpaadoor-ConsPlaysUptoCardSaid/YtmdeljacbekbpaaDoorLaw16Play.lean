/- tenementlaw16.play. (Printed by wip/gen_play16.py.) -/
import Derived.Test.YtmdeljacbekbpaaDoorLaw16Duo
import Derived.Deep.RegionHeld3
import Derived.BigQuiet
namespace Go.Proofs.YtmdeljacbekbpaaDoor
open Go.RowKit
set_option maxRecDepth 100000

def OpBox16 (w : World) (bx : Nat) (what off : Int) (bq : Option Addr) (bn bc : Nat) (pq : Option Addr) (pn pc : Nat) : Prop :=
  w.heap[bx]? = some (.cells #[.int .i64 what, .int .i64 off, .slice bq bn bc, .slice pq pn pc] 70 (0, 0))
theorem OpBox16.cells {w : World} {bx : Nat} {what off : Int} {bq : Option Addr} {bn bc : Nat} {pq : Option Addr} {pn pc : Nat} (h : OpBox16 w bx what off bq bn bc pq pn pc) :
    w.cell? ⟨bx, 0, none⟩ = some (.int .i64 what) ∧ w.cell? ⟨bx, 1, none⟩ = some (.int .i64 off) ∧ w.cell? ⟨bx, 2, none⟩ = some (.slice bq bn bc) ∧ w.cell? ⟨bx, 3, none⟩ = some (.slice pq pn pc) := by
  unfold OpBox16 at h
  refine ⟨?_, ?_, ?_, ?_⟩ <;> simp [World.cell?, h]
theorem OpBox16.kept {Q : Nat → Prop} {w w' : World} {bx : Nat} {what off : Int} {bq : Option Addr} {bn bc : Nat} {pq : Option Addr} {pn pc : Nat} (h : OpBox16 w bx what off bq bn bc pq pn pc) (hm : Mod Q w w') (hq : ¬ Q bx) : OpBox16 w' bx what off bq bn bc pq pn pc := hm.blk h hq
theorem OpBox16.no {w w' : World} {bx : Nat} {what off : Int} {bq : Option Addr} {bn bc : Nat} {pq : Option Addr} {pn pc : Nat} (h : OpBox16 w bx what off bq bn bc pq pn pc) (hm : Mod No w w') : OpBox16 w' bx what off bq bn bc pq pn pc := h.kept hm (fun q => q)

/-- What a call leaves. -/
def PlayPost (w0 : World) (B F : Nat) (K : RfK) (b c : Nat) (o : Co) (b0 : Nat) (s : List (List Int) × List Int) (e : Ending) (w' : World) : Prop :=
  e = .returned (.bool true) ∧ ∃ S' o' lv' pv' rlv' rpv' s', o'.mfn = o.mfn ∧ s'.1.length ≤ s.1.length + 128 ∧ Rest16 w0 B F K b c S' o' lv' pv' rlv' rpv' b0 s' w'

set_option maxHeartbeats 4000000 in
theorem play16_long {w0 : World} {B F b c : Nat} {K : RfK} {S : List Fr} {o : Co} {lv pv rlv rpv : Value} {b0 : Nat} {s : List (List Int) × List Int} (what off : Int) (bq : Option Addr) (bn bc : Nat) (pq : Option Addr) (ps : List Pk) (pc : Nat) (w : World) (h : Rest16 w0 B F K b c S o lv pv rlv rpv b0 s w) (hl : 64 < ps.length) (hl2 : ps.length ≤ 140737488355328) :
    Calls Tryd.prog 25 #[.pointer (some ⟨B, 0, none⟩), .pointer (some ⟨K.R, 0, none⟩), .pointer (some ⟨b, 0, none⟩), .pointer (some ⟨c, 0, none⟩), .agg #[.int .i64 what, .int .i64 off, .slice bq bn bc, .slice pq ps.length pc]] w (PlayPost w0 B F K b c o b0 s) := by
  have hal : Mod No w (w.alloc (.cells #[.int .i64 what, .int .i64 off, .slice bq bn bc, .slice pq ps.length pc] 70)) := (Mod.refl No w).alloc _
  have hbx : OpBox16 (w.alloc (.cells #[.int .i64 what, .int .i64 off, .slice bq bn bc, .slice pq ps.length pc] 70)) w.heap.size what off bq bn bc pq ps.length pc := heap_alloc_new w _
  have h1 := h.no hal
  go_enter Tryd.func25, Tryd.ntmps25
  go_upto_region 1 with (fail)
  generalize (w.alloc (.cells #[.int .i64 what, .int .i64 off, .slice bq bn bc, .slice pq ps.length pc] 70)) = w1 at hal hbx h1 ⊢
  generalize w.heap.size = bx at hbx ⊢
  obtain ⟨z0, z1, z2, z3⟩ := hbx.cells
  have HV := Lib.hid (vnew_long pq ps.length pc w1 h1.rd.two.p hl hl2)
  have HRV := Lib.hid (rvnew_long (K := K) pq ps.length pc w1 hl hl2)
  have H1 := Lib.hid h1
  clear h hbx h1
  go_wp2_with fail
  refine HV.out.mono ?_
  rintro e w2 ⟨rfl, rfl⟩
  go_wp2_with fail
  refine HRV.out.mono ?_
  rintro e w3 ⟨rfl, rfl⟩
  go_wp2
  go_ret
  exact ⟨rfl, S, o, lv, pv, rlv, rpv, s, rfl, by omega, H1.out⟩

set_option maxHeartbeats 8000000 in
theorem play16_drain {w0 : World} {B F b c : Nat} {K : RfK} {S : List Fr} {o : Co} {lv pv rlv rpv : Value} {b0 : Nat} {s : List (List Int) × List Int} (off : Int) (bq : Option Addr) (bs : List Int) (bc : Nat) (pq : Option Addr) (ps : List Pk) (pc : Nat) (w : World) (h : Rest16 w0 B F K b c S o lv pv rlv rpv b0 s w) (hps : PkS w0 pq ps) (hl : ps.length ≤ 64) (hls : (s.1.length + 129) * 16 ≤ 140737488355328) :
    Calls Tryd.prog 25 #[.pointer (some ⟨B, 0, none⟩), .pointer (some ⟨K.R, 0, none⟩), .pointer (some ⟨b, 0, none⟩), .pointer (some ⟨c, 0, none⟩), .agg #[.int .i64 0, .int .i64 off, .slice bq bs.length bc, .slice pq ps.length pc]] w (PlayPost w0 B F K b c o b0 s) := by
  have hal : Mod No w (w.alloc (.cells #[.int .i64 0, .int .i64 off, .slice bq bs.length bc, .slice pq ps.length pc] 70)) := (Mod.refl No w).alloc _
  have hbx : OpBox16 (w.alloc (.cells #[.int .i64 0, .int .i64 off, .slice bq bs.length bc, .slice pq ps.length pc] 70)) w.heap.size 0 off bq bs.length bc pq ps.length pc := heap_alloc_new w _
  have h1 := h.no hal
  have hbn : (∀ j, Own2 lv pv j → j ≠ w.heap.size) ∧ (∀ j, Own2 rlv rpv j → j ≠ w.heap.size) ∧ b0 ≤ w.heap.size ∧ w.heap.size < (w.alloc (.cells #[.int .i64 0, .int .i64 off, .slice bq bs.length bc, .slice pq ps.length pc] 70)).heap.size := ⟨fun j hj => by have := (h.lp.low hj).2; omega, fun j hj => by have := (h.rl.low hj).2; omega, h.hb0.1, by simp⟩
  go_enter Tryd.func25, Tryd.ntmps25
  go_upto_region 1 with (fail)
  generalize (w.alloc (.cells #[.int .i64 0, .int .i64 off, .slice bq bs.length bc, .slice pq ps.length pc] 70)) = w1 at hal hbx h1 hbn ⊢
  generalize w.heap.size = bx at hbx hbn ⊢
  obtain ⟨z0, z1, z2, z3⟩ := hbx.cells
  have HBX := Lib.hid hbx
  have H1 := Lib.hid h1
  have HPS := Lib.hid hps
  have HBN := Lib.hid hbn
  clear h hbx h1 hps hal hbn
  go_wp2_with fail
  refine (vnew_in pq ps pc w1 H1.out.rd.two.p (HPS.out.kept H1.out.rd.mod) hl).mono ?_
  rintro e w2 ⟨vk, rfl, hm2, hv2⟩
  clear z0 z1 z2 z3
  obtain ⟨z0, z1, z2, z3⟩ := (HBX.out.no hm2).cells
  go_wp2_with fail
  refine (rvnew_in (K := K) pq ps pc w2 hl).mono ?_
  rintro e w3 ⟨X, rfl, hX, hm3, hx3⟩
  have HD := Lib.hid (H1.out.views hm2 hv2 hX hm3 hx3)
  have HBX3 := Lib.hid (HBX.out.no (hm2.trans hm3))
  have HIS : Hid (invS 0 S) := H1.out.rd.two.inv
  have HLS : Hid (S.length = 2) := H1.out.rd.len
  have HTB : Hid (Lib.Utf8Tabs 0 1 w0) := H1.out.tabs
  have HM03 : Hid (Mod No w0 w3) := (H1.out.rd.mod.trans hm2).trans hm3
  clear z0 z1 z2 z3 hm2 hm3 hv2 hX hx3
  generalize w1.heap.size = base at HD HBN
  generalize w2.heap.size = top at HD
  obtain ⟨z0, z1, z2, z3⟩ := HBX3.out.cells
  clear H1 HBX
  obtain ⟨r, cl, er, N', S', o', s', hS', hI', hmf, hlen, hA, hRA⟩ := drain_both S o ps s HLS.out HIS.out hl hls
  have HMF := Lib.hid hmf
  have HLE := Lib.hid hlen
  have HI1 := Lib.hid hI'
  have HL1 := Lib.hid hS'
  have HA := Lib.hid (hA w3 B F b base top vk lv pv b0 HD.out.cc)
  have HRA := Lib.hid hRA
  clear hmf hlen hI' hS' hA hRA z1 z2 z3
  go_wp2_with fail
  refine HA.out.mono ?_
  rintro e w4 ⟨lv4, pv4, rfl, hc4, hm4, hn4⟩
  have HC4 := Lib.hid hc4
  have HM4 := Lib.hid hm4
  have HN4 := Lib.hid hn4
  clear hc4 hm4 hn4 z0
  go_wp2_with fail
  refine (HRA.out w4 w0 X K pq pc c rlv rpv b0 HPS.out (HD.out.mid HM4.out)).mono ?_
  rintro e w5 ⟨rlv5, rpv5, rfl, hr5, hm5, hn5⟩
  have hd5 := HD.out.pair HC4.out HM4.out HN4.out (Mod.refl No _) hr5 hm5 hn5
  have HD5 := Lib.hid hd5
  obtain ⟨x0, x1, x2, _⟩ := hd5.rr.x.c
  have HRE : Hid (∀ n, Calls Tryd.prog 49 #[.pointer (some ⟨vk.V, 0, none⟩)] (w5.drewN n) fun e w' => e = .returned (.int .i64 N') ∧ w' = w5.drewN n) := fun n => (vreads_made ((HD5.out.no ((Mod.refl No w5).drewN n)).cc.cw.v)).mono fun _ _ q => ⟨q.1, q.2.symm⟩
  clear hd5 hr5 hm5 hn5 HD HC4 HM4 HN4 HRA HA
  have e1 : (r == r) = true := beq_self_eq_true r
  have e2 : (cl == cl) = true := beq_self_eq_true cl
  have e3 : (er == er) = true := beq_self_eq_true er
  have e4 : (N' == N') = true := beq_self_eq_true N'
  go_wp2_with fail
  go_quiet ((go_at_call 49; exact Calls.quiet_of_same (HRE.out _)))
  go_wp2
  go_ret
  exact ⟨rfl, S', o', lv4, pv4, rlv5, rpv5, s', HMF.out, HLE.out, (HD5.out.no ((Mod.refl No w5).drewN _)).back HL1.out HI1.out HTB.out⟩

set_option maxHeartbeats 8000000 in
theorem play16_feed {w0 : World} {B F b c : Nat} {K : RfK} {S : List Fr} {o : Co} {lv pv rlv rpv : Value} {b0 : Nat} {s : List (List Int) × List Int} (off : Int) (bq : Option Addr) (bs : List Int) (bc : Nat) (pq : Option Addr) (ps : List Pk) (pc : Nat) (w : World) (h : Rest16 w0 B F K b c S o lv pv rlv rpv b0 s w) (hps : PkS w0 pq ps) (hl : ps.length ≤ 64) (hb : Byt w0 bq bs bc) :
    Calls Tryd.prog 25 #[.pointer (some ⟨B, 0, none⟩), .pointer (some ⟨K.R, 0, none⟩), .pointer (some ⟨b, 0, none⟩), .pointer (some ⟨c, 0, none⟩), .agg #[.int .i64 1, .int .i64 off, .slice bq bs.length bc, .slice pq ps.length pc]] w (PlayPost w0 B F K b c o b0 s) := by
  have HBY := Lib.hid hb
  have hblen := hb.len
  clear hb
  have hal : Mod No w (w.alloc (.cells #[.int .i64 1, .int .i64 off, .slice bq bs.length bc, .slice pq ps.length pc] 70)) := (Mod.refl No w).alloc _
  have hbx : OpBox16 (w.alloc (.cells #[.int .i64 1, .int .i64 off, .slice bq bs.length bc, .slice pq ps.length pc] 70)) w.heap.size 1 off bq bs.length bc pq ps.length pc := heap_alloc_new w _
  have h1 := h.no hal
  have hbn : (∀ j, Own2 lv pv j → j ≠ w.heap.size) ∧ (∀ j, Own2 rlv rpv j → j ≠ w.heap.size) ∧ b0 ≤ w.heap.size ∧ w.heap.size < (w.alloc (.cells #[.int .i64 1, .int .i64 off, .slice bq bs.length bc, .slice pq ps.length pc] 70)).heap.size := ⟨fun j hj => by have := (h.lp.low hj).2; omega, fun j hj => by have := (h.rl.low hj).2; omega, h.hb0.1, by simp⟩
  go_enter Tryd.func25, Tryd.ntmps25
  go_upto_region 1 with (fail)
  generalize (w.alloc (.cells #[.int .i64 1, .int .i64 off, .slice bq bs.length bc, .slice pq ps.length pc] 70)) = w1 at hal hbx h1 hbn ⊢
  generalize w.heap.size = bx at hbx hbn ⊢
  obtain ⟨z0, z1, z2, z3⟩ := hbx.cells
  have HBX := Lib.hid hbx
  have H1 := Lib.hid h1
  have HPS := Lib.hid hps
  have HBN := Lib.hid hbn
  clear h hbx h1 hps hal hbn
  go_wp2_with fail
  refine (vnew_in pq ps pc w1 H1.out.rd.two.p (HPS.out.kept H1.out.rd.mod) hl).mono ?_
  rintro e w2 ⟨vk, rfl, hm2, hv2⟩
  clear z0 z1 z2 z3
  obtain ⟨z0, z1, z2, z3⟩ := (HBX.out.no hm2).cells
  go_wp2_with fail
  refine (rvnew_in (K := K) pq ps pc w2 hl).mono ?_
  rintro e w3 ⟨X, rfl, hX, hm3, hx3⟩
  have HD := Lib.hid (H1.out.views hm2 hv2 hX hm3 hx3)
  have HBX3 := Lib.hid (HBX.out.no (hm2.trans hm3))
  have HIS : Hid (invS 0 S) := H1.out.rd.two.inv
  have HLS : Hid (S.length = 2) := H1.out.rd.len
  have HTB : Hid (Lib.Utf8Tabs 0 1 w0) := H1.out.tabs
  have HM03 : Hid (Mod No w0 w3) := (H1.out.rd.mod.trans hm2).trans hm3
  clear z0 z1 z2 z3 hm2 hm3 hv2 hX hx3
  generalize w1.heap.size = base at HD HBN
  generalize w2.heap.size = top at HD
  obtain ⟨z0, z1, z2, z3⟩ := HBX3.out.cells
  clear H1 HBX
  obtain ⟨r, er, N', S', o', hS', hI', hmf, hA, hRA⟩ := feed_both S o ps s bs HLS.out HIS.out hl
  have HMF := Lib.hid hmf
  have HI1 := Lib.hid hI'
  have HL1 := Lib.hid hS'
  have HA := Lib.hid hA
  have HRA := Lib.hid hRA
  have HBA : Hid (Byt (w3.alloc (.cells #[] 5)) bq bs bc) := HBY.out.kept (HM03.out.trans ((Mod.refl No w3).alloc _))
  have za : (w3.alloc (.cells #[] 5)).cell? ⟨bx, 2, none⟩ = some (.slice bq bs.length bc) := (HBX3.out.no ((Mod.refl No w3).alloc _)).cells.2.2.1
  clear hmf hI' hS' hA hRA z1 z3
  go_wp2_with (at_builtin; refine wpList_append_byt rfl _ _ rfl w3.heap.size _ [] rfl (own_empty (heap_alloc_new w3 (.cells #[] 5)) (Nat.le_refl _)) bq bs bc rfl HBA.out (by simp; omega) (by simp) ?_; intro v' w5 hown5 hgr5; obtain ⟨q5, c5, rfl⟩ := owns_slice hown5; have HG5 := Lib.hid hgr5; have HO5 := Lib.hid hown5; clear hown5 hgr5)
  have hm35 : Mod No w3 w5 := ((Mod.refl No w3).alloc _).grown HG5.out (fun j ej hj => by cases ej; exact absurd hj (Nat.lt_irrefl _))
  have hby5 := Byt.ofOwn (HO5.out : w5.ownsRow w3.heap.size 5 1 (.slice q5 ([] ++ bs).length c5) ([] ++ bs).length (([] ++ bs).map (Value.int .u8))) (by rw [List.nil_append]; exact HBY.out.range) (by rw [List.nil_append]; exact hblen)
  rw [List.nil_append] at hby5
  have hd5 := HD.out.no hm35
  have hfd := HA.out w5 B F b base top vk lv pv b0 q5 c5 hd5.cc hby5.2.1 (fun _ b5 o5 e5 => by
    have e6 := (hby5.2.2 b5 o5 e5).1
    have e7 := HD.out.cc.cw.p.ltF
    have e8 := HD.out.cc.cw.v.d.rng
    have e9 := HD.out.cc.top
    have e10 := HD.out.cc.hb
    have e11 := HD.out.cc.b0
    omega)
  have HFD := Lib.hid hfd
  have HD5 := Lib.hid hd5
  have HBX5 := Lib.hid (HBX3.out.no hm35)
  clear hm35 hby5 hd5 hfd z0 z2 za
  refine HFD.out.mono ?_
  rintro e w6 ⟨rfl, hc6, hm6⟩
  have hbx6 := HBX5.out.kept hm6 (fun q => by
    have e1 := HBN.out
    have e2 := HD5.out.lay.lt
    have e3 := HD5.out.cc.cw.v.d.rng
    rcases q with q | q | q <;> omega)
  obtain ⟨y0, y1, y2, y3⟩ := hbx6.cells
  have HC6 := Lib.hid hc6
  have HM6 : Hid (Mod (P4 F vk b lv pv) w5 w6) := hm6.mono (fun _ _ q => .inl q)
  clear hc6 hm6 hbx6 y0 y1 y3
  go_wp2_with fail
  refine (HRA.out w6 w0 X K pq pc c rlv rpv b0 bq bc HPS.out (HD5.out.mid HM6.out) HBY.out).mono ?_
  rintro e w7 ⟨rfl, hr7, hm7⟩
  have hd7 := HD5.out.pair HC6.out HM6.out (fun j hj => .inl hj) (Mod.refl No _) hr7 hm7 (fun j hj => .inl hj)
  have HD7 := Lib.hid hd7
  obtain ⟨x0, x1, x2, _⟩ := hd7.rr.x.c
  have HRE : Hid (∀ n, Calls Tryd.prog 49 #[.pointer (some ⟨vk.V, 0, none⟩)] (w7.drewN n) fun e w' => e = .returned (.int .i64 N') ∧ w' = w7.drewN n) := fun n => (vreads_made ((HD7.out.no ((Mod.refl No w7).drewN n)).cc.cw.v)).mono fun _ _ q => ⟨q.1, q.2.symm⟩
  clear hd7 hr7 hm7 HD HC6 HM6 HRA HA HFD y2
  have e1 : (r == r) = true := beq_self_eq_true r
  have e3 : (er == er) = true := beq_self_eq_true er
  have e4 : (N' == N') = true := beq_self_eq_true N'
  go_wp2_with fail
  go_quiet ((go_at_call 49; exact Calls.quiet_of_same (HRE.out _)))
  go_wp2
  go_ret
  exact ⟨rfl, S', o', lv, pv, rlv, rpv, s, HMF.out, by omega, (HD7.out.no ((Mod.refl No w7).drewN _)).back HL1.out HI1.out HTB.out⟩

set_option maxHeartbeats 8000000 in
theorem play16_write {w0 : World} {B F b c : Nat} {K : RfK} {S : List Fr} {o : Co} {lv pv rlv rpv : Value} {b0 : Nat} {s : List (List Int) × List Int} (what off : Int) (bq : Option Addr) (bs : List Int) (bc : Nat) (pq : Option Addr) (ps : List Pk) (pc : Nat) (w : World) (h : Rest16 w0 B F K b c S o lv pv rlv rpv b0 s w) (hps : PkS w0 pq ps) (hl : ps.length ≤ 64) (hb : Byt w0 bq bs bc) (hwh : what ≠ 0 ∧ what ≠ 1) :
    Calls Tryd.prog 25 #[.pointer (some ⟨B, 0, none⟩), .pointer (some ⟨K.R, 0, none⟩), .pointer (some ⟨b, 0, none⟩), .pointer (some ⟨c, 0, none⟩), .agg #[.int .i64 what, .int .i64 off, .slice bq bs.length bc, .slice pq ps.length pc]] w (PlayPost w0 B F K b c o b0 s) := by
  have HBY := Lib.hid hb
  have e0 : (what == 0) = false := beq_eq_false_iff_ne.2 hwh.1
  have e1 : (what == 1) = false := beq_eq_false_iff_ne.2 hwh.2
  clear hb hwh
  have hal : Mod No w (w.alloc (.cells #[.int .i64 what, .int .i64 off, .slice bq bs.length bc, .slice pq ps.length pc] 70)) := (Mod.refl No w).alloc _
  have hbx : OpBox16 (w.alloc (.cells #[.int .i64 what, .int .i64 off, .slice bq bs.length bc, .slice pq ps.length pc] 70)) w.heap.size what off bq bs.length bc pq ps.length pc := heap_alloc_new w _
  have h1 := h.no hal
  have hbn : (∀ j, Own2 lv pv j → j ≠ w.heap.size) ∧ (∀ j, Own2 rlv rpv j → j ≠ w.heap.size) ∧ b0 ≤ w.heap.size ∧ w.heap.size < (w.alloc (.cells #[.int .i64 what, .int .i64 off, .slice bq bs.length bc, .slice pq ps.length pc] 70)).heap.size := ⟨fun j hj => by have := (h.lp.low hj).2; omega, fun j hj => by have := (h.rl.low hj).2; omega, h.hb0.1, by simp⟩
  go_enter Tryd.func25, Tryd.ntmps25
  go_upto_region 1 with (fail)
  generalize (w.alloc (.cells #[.int .i64 what, .int .i64 off, .slice bq bs.length bc, .slice pq ps.length pc] 70)) = w1 at hal hbx h1 hbn ⊢
  generalize w.heap.size = bx at hbx hbn ⊢
  obtain ⟨z0, z1, z2, z3⟩ := hbx.cells
  have HBX := Lib.hid hbx
  have H1 := Lib.hid h1
  have HPS := Lib.hid hps
  have HBN := Lib.hid hbn
  clear h hbx h1 hps hal hbn
  go_wp2_with fail
  refine (vnew_in pq ps pc w1 H1.out.rd.two.p (HPS.out.kept H1.out.rd.mod) hl).mono ?_
  rintro e w2 ⟨vk, rfl, hm2, hv2⟩
  clear z0 z1 z2 z3
  obtain ⟨z0, z1, z2, z3⟩ := (HBX.out.no hm2).cells
  go_wp2_with fail
  refine (rvnew_in (K := K) pq ps pc w2 hl).mono ?_
  rintro e w3 ⟨X, rfl, hX, hm3, hx3⟩
  have HD := Lib.hid (H1.out.views hm2 hv2 hX hm3 hx3)
  have HBX3 := Lib.hid (HBX.out.no (hm2.trans hm3))
  have HIS : Hid (invS 0 S) := H1.out.rd.two.inv
  have HLS : Hid (S.length = 2) := H1.out.rd.len
  have HTB : Hid (Lib.Utf8Tabs 0 1 w0) := H1.out.tabs
  have HM03 : Hid (Mod No w0 w3) := (H1.out.rd.mod.trans hm2).trans hm3
  clear z0 z1 z2 z3 hm2 hm3 hv2 hX hx3
  generalize w1.heap.size = base at HD HBN
  generalize w2.heap.size = top at HD
  obtain ⟨z0, z1, z2, z3⟩ := HBX3.out.cells
  clear H1 HBX
  have HPW : Hid (∀ w', Mod No w3 w' → Calls Tryd.prog 17 #[.pointer (some ⟨B, 0, none⟩), .int .i64 0, .int .i64 off, .slice bq bs.length bc] w' fun e w2 => e = .returned (.int .i64 (wrE S 0 off bs.length)) ∧ Mod (One F) w' w2 ∧ PhM w2 B F (wrR S 0 off bs)) :=
    fun w' hm => pwrite_any 0 off bq bc bs w' ((HD.out.no hm).cc.cw.p) ((HBY.out.kept (HM03.out.trans hm)).src)
  have HRW : Hid (∀ w', RCV w0 X K pq pc ps 0 S c o rlv rpv b0 s w' → Calls Tryd.prog 51 #[.pointer (some ⟨K.R, 0, none⟩), .int .i64 0, .int .i64 off, .slice bq bs.length bc] w' fun e w2 => e = .returned (.int .i64 (wrE S 0 off bs.length)) ∧ Mod K.inn w' w2 ∧ RfM w2 K (wrR S 0 off bs)) :=
    fun w' hr => rwrite16 0 off bq bc bs w' hr.r HBY.out.range (HBY.out.rsrc hr.mod hr.hK)
  have HI1 : Hid (invS 0 (wrR S 0 off bs)) := invS_wr HIS.out _ _ _
  have HL1 : Hid ((wrR S 0 off bs).length = 2) := by rw [wrR_len]; exact HLS.out
  generalize wrE S 0 off bs.length = r at HPW HRW
  generalize wrR S 0 off bs = S1 at HPW HRW HI1 HL1
  have er : (r == r) = true := beq_self_eq_true r
  have hS1 : (fun w' : World => w'.cell? ⟨bx, 1, none⟩ = some (.int .i64 off) ∧ w'.cell? ⟨bx, 2, none⟩ = some (.slice bq bs.length bc)) w3 := ⟨z1, z2⟩
  have HD3 := Lib.hid (HD.out.no ((Mod.refl No w3).drew))
  have hnP : ¬ P3 F vk b bx := fun q => by
    have e1 := HBN.out
    have e2 := HD.out.lay.lt
    have e3 := HD.out.cc.cw.v.d.rng
    rcases q with q | q | q <;> omega
  have hnQ : ¬ K.inn bx := fun q => by
    have e1 := HBN.out
    have e2 := HD.out.lay.kb bx (RfK.inn_has q)
    omega
  have HNP := Lib.hid hnP
  have HNQ := Lib.hid hnQ
  have HBX4 := Lib.hid (HBX3.out.no ((Mod.refl No w3).drew))
  clear z1 z2 z3 hnP hnQ
  go_upto_region 14 with (fail)
  clear z0
  go_region_held3 (fun w' : World => w'.cell? ⟨bx, 1, none⟩ = some (.int .i64 off) ∧ w'.cell? ⟨bx, 2, none⟩ = some (.slice bq bs.length bc)) (first | exact hS1 | assumption) (first
    | (go_at_call 17; refine (HPW.out _ ((Mod.refl No w3).drew)).mono ?_; rintro e w5 ⟨rfl, hm5, hp5⟩; have hc5 := HD3.out.cc.cw.wrote hm5 hp5; have HC5 := Lib.hid (HD3.out.cc.step hc5.1 hc5.2); have HM5 : Hid (Mod (P4 F vk b lv pv) w3.drew w5) := hc5.2.mono (fun _ _ q => .inl q); have HBX5 := Lib.hid (HBX4.out.kept hc5.2 HNP.out); have hS5 : (fun w' : World => w'.cell? ⟨bx, 1, none⟩ = some (.int .i64 off) ∧ w'.cell? ⟨bx, 2, none⟩ = some (.slice bq bs.length bc)) w5 := ⟨HBX5.out.cells.2.1, HBX5.out.cells.2.2.1⟩; clear hc5 hm5 hp5)
    | (go_at_call 51; refine (HRW.out _ (HD3.out.mid HM5.out)).mono ?_; rintro e w6 ⟨rfl, hm6, hr6⟩; have hq6 := (HD3.out.mid HM5.out).wrote hm6 hr6; have HBX6 := Lib.hid (HBX5.out.kept hm6 HNQ.out); have hS6 : (fun w' : World => w'.cell? ⟨bx, 1, none⟩ = some (.int .i64 off) ∧ w'.cell? ⟨bx, 2, none⟩ = some (.slice bq bs.length bc)) w6 := ⟨HBX6.out.cells.2.1, HBX6.out.cells.2.2.1⟩; have HQ6 := Lib.hid hq6; clear hq6 hm6 hr6))
  go_wp2
  go_ret
  exact ⟨rfl, S1, o, lv, pv, rlv, rpv, s, rfl, by omega, (HD3.out.pair HC5.out HM5.out (fun j hj => .inl hj) (Mod.refl No _) HQ6.out.1 HQ6.out.2 (fun j hj => .inl hj)).back HL1.out HI1.out HTB.out⟩

theorem play16_any {w0 : World} {B F b c : Nat} {K : RfK} {S : List Fr} {o : Co} {lv pv rlv rpv : Value} {b0 : Nat} {s : List (List Int) × List Int} (p : COp) (w : World) (h : Rest16 w0 B F K b c S o lv pv rlv rpv b0 s w) (ho : p.ok w0) (hls : (s.1.length + 129) * 16 ≤ 140737488355328) :
    Calls Tryd.prog 25 #[.pointer (some ⟨B, 0, none⟩), .pointer (some ⟨K.R, 0, none⟩), .pointer (some ⟨b, 0, none⟩), .pointer (some ⟨c, 0, none⟩), .agg p.cells.toArray] w (PlayPost w0 B F K b c o b0 s) := by
  obtain ⟨what, off, bq, bs, bc, pq, ps, pc⟩ := p
  have hp := ho.p
  have hpl := ho.pl
  have hby := ho.b
  dsimp only at hp hpl hby
  simp only [COp.cells]
  by_cases hlong : 64 < ps.length
  · exact play16_long what off bq bs.length bc pq ps pc w h hlong (by omega)
  have hl : ps.length ≤ 64 := by omega
  by_cases h0 : what = 0
  · subst h0; exact play16_drain off bq bs bc pq ps pc w h hp hl hls
  by_cases h1 : what = 1
  · subst h1; exact play16_feed off bq bs bc pq ps pc w h hp hl hby
  · exact play16_write what off bq bs bc pq ps pc w h hp hl hby ⟨h0, h1⟩

end Go.Proofs.YtmdeljacbekbpaaDoor
