/- tenementlaw08.play: Take. -/
import Derived.Test.YtpfjpfepbhfmeaaLaw08Play
namespace Go.Proofs.Ytpfjpfepbhfmeaa
open Go.RowKit
set_option maxRecDepth 100000

theorem conv_nil8 (w : World) : (convert 31 9 (.slice none 0 0)).run Try.prog w = .ok (.string (strOfNums [])) w := rfl

set_option maxHeartbeats 8000000 in
theorem play8_busy {w0 : World} {B F b c : Nat} {K : RfK} {S : List Fr} {k : Bk} (off : Int) (bq : Option Addr) (bn bc : Nat) (pq : Option Addr) (ps : List Pk) (pc : Nat) (w : World) (h : Eight w0 B F K b c S k w) (hps : PkS w0 pq ps) (hl : ps.length ≤ 64) (hb : k.busy) :
    Calls Try.prog 57 #[.pointer (some ⟨B, 0, none⟩), .pointer (some ⟨K.R, 0, none⟩), .pointer (some ⟨b, 0, none⟩), .pointer (some ⟨c, 0, none⟩), .agg #[.int .i64 1, .int .i64 off, .slice bq bn bc, .slice pq ps.length pc]] w fun e w' => e = .returned (.bool true) ∧ ∃ S' k', k.Step k' ∧ Eight w0 B F K b c S' k' w' := by
  have hal : Mod No w (w.alloc (.cells #[.int .i64 1, .int .i64 off, .slice bq bn bc, .slice pq ps.length pc] 108)) := (Mod.refl No w).alloc _
  have hbx : OpBox8 (w.alloc (.cells #[.int .i64 1, .int .i64 off, .slice bq bn bc, .slice pq ps.length pc] 108)) w.heap.size 1 off bq bn bc pq ps.length pc := heap_alloc_new w _
  have h1 := h.no hal
  have HMA := Lib.hid hal
  go_enter Try.func57, Try.ntmps57
  go_upto_region 1 with (fail)
  generalize (w.alloc (.cells #[.int .i64 1, .int .i64 off, .slice bq bn bc, .slice pq ps.length pc] 108)) = w1 at hal HMA hbx h1 ⊢
  generalize w.heap.size = bx at hbx ⊢
  obtain ⟨z0, z1, z2, z3⟩ := hbx.cells
  have HBX := Lib.hid hbx
  have H1 := Lib.hid h1
  have HPS := Lib.hid hps
  clear h hbx h1 hps hal
  go_wp2_with fail
  refine (vnew_in pq ps pc w1 H1.out.rd.two.p (HPS.out.kept H1.out.rd.mod) hl).mono ?_
  rintro e w2 ⟨vk, rfl, hm2, hv2⟩
  clear z0 z1 z2 z3
  obtain ⟨z0, z1, z2, z3⟩ := (HBX.out.no hm2).cells
  go_wp2_with fail
  refine (rvnew_in (K := K) pq ps pc w2 hl).mono ?_
  rintro e w3 ⟨X, rfl, hX, hm3, hx3⟩
  have HD := Lib.hid (H1.out.views hm2 hv2 hX hm3 hx3)
  have HBX3 := Lib.hid (HBX.out.no (hm2.trans hm3))
  have HIS : Hid (invS 0 S) := H1.out.rd.two.inv
  have HLS : Hid (S.length = 2) := H1.out.rd.len
  have HM03 : Hid (Mod No w0 w3) := (H1.out.rd.mod.trans hm2).trans hm3
  clear z0 z1 z2 z3 hm2 hm3 hv2 hX hx3
  generalize w1.heap.size = base at HD
  generalize w2.heap.size = top at HD
  obtain ⟨z0, z1, z2, z3⟩ := HBX3.out.cells
  clear H1 HBX
  have HTK := Lib.hid (take_busy w3 HD.out.cc hb)
  have HRT : Hid (∀ w', Mod No w3 w' → Calls Try.prog 107 #[.pointer (some ⟨c, 0, none⟩), .pointer (some ⟨X, 0, none⟩)] w' fun e w2 => e = .returned (.tuple #[.slice none 0 0, .int .i64 5]) ∧ Mod No w' w2) := fun w' hm => rtake_busy X w' (HD.out.rr.bk.no hm) HD.out.cc.ok hb
  clear HBX3 z1 z2 z3 hb
  go_wp2_with fail
  refine HTK.out.mono ?_
  rintro e w4 ⟨rfl, hm4⟩
  clear z0
  go_wp2_with fail
  refine (HRT.out _ hm4).mono ?_
  rintro e w5 ⟨rfl, hm5⟩
  have HD5 := Lib.hid (HD.out.no (hm4.trans hm5))
  obtain ⟨x0, x1, x2, _⟩ := HD5.out.rr.x.c
  have HRE : Hid (∀ n, Calls Try.prog 26 #[.pointer (some ⟨vk.V, 0, none⟩)] (w5.drewN n) fun e w' => e = .returned (.int .i64 0) ∧ w' = w5.drewN n) := fun n => (vreads_made ((HD5.out.no ((Mod.refl No w5).drewN n)).cc.v)).mono fun _ _ q => ⟨q.1, q.2.symm⟩
  have hv1 : ∀ q, (convert 31 9 (.slice none 0 0)).run Try.prog (w5.drewN q) = .ok (.string (strOfNums [])) (w5.drewN q) := fun q => conv_nil8 _
  clear hm4 hm5 HD HTK HRT
  go_wp2_with fail
  go_quiet ((go_at_call 26; exact Calls.quiet_of_same (HRE.out _)))
  go_wp2
  go_ret
  exact ⟨rfl, S, k, .stay, (HD5.out.no ((Mod.refl No w5).drewN _)).back HLS.out HIS.out⟩

set_option maxHeartbeats 8000000 in
theorem play8_take {w0 : World} {B F b c : Nat} {K : RfK} {S : List Fr} {k : Bk} (off : Int) (bq : Option Addr) (bn bc : Nat) (pq : Option Addr) (ps : List Pk) (pc : Nat) (w : World) (h : Eight w0 B F K b c S k w) (hps : PkS w0 pq ps) (hl : ps.length ≤ 64) (hb : ¬ k.busy) :
    Calls Try.prog 57 #[.pointer (some ⟨B, 0, none⟩), .pointer (some ⟨K.R, 0, none⟩), .pointer (some ⟨b, 0, none⟩), .pointer (some ⟨c, 0, none⟩), .agg #[.int .i64 1, .int .i64 off, .slice bq bn bc, .slice pq ps.length pc]] w fun e w' => e = .returned (.bool true) ∧ ∃ S' k', k.Step k' ∧ Eight w0 B F K b c S' k' w' := by
  have hal : Mod No w (w.alloc (.cells #[.int .i64 1, .int .i64 off, .slice bq bn bc, .slice pq ps.length pc] 108)) := (Mod.refl No w).alloc _
  have hbx : OpBox8 (w.alloc (.cells #[.int .i64 1, .int .i64 off, .slice bq bn bc, .slice pq ps.length pc] 108)) w.heap.size 1 off bq bn bc pq ps.length pc := heap_alloc_new w _
  have h1 := h.no hal
  have HMA := Lib.hid hal
  go_enter Try.func57, Try.ntmps57
  go_upto_region 1 with (fail)
  generalize (w.alloc (.cells #[.int .i64 1, .int .i64 off, .slice bq bn bc, .slice pq ps.length pc] 108)) = w1 at hal HMA hbx h1 ⊢
  generalize w.heap.size = bx at hbx ⊢
  obtain ⟨z0, z1, z2, z3⟩ := hbx.cells
  have HBX := Lib.hid hbx
  have H1 := Lib.hid h1
  have HPS := Lib.hid hps
  clear h hbx h1 hps hal
  go_wp2_with fail
  refine (vnew_in pq ps pc w1 H1.out.rd.two.p (HPS.out.kept H1.out.rd.mod) hl).mono ?_
  rintro e w2 ⟨vk, rfl, hm2, hv2⟩
  clear z0 z1 z2 z3
  obtain ⟨z0, z1, z2, z3⟩ := (HBX.out.no hm2).cells
  go_wp2_with fail
  refine (rvnew_in (K := K) pq ps pc w2 hl).mono ?_
  rintro e w3 ⟨X, rfl, hX, hm3, hx3⟩
  have HD := Lib.hid (H1.out.views hm2 hv2 hX hm3 hx3)
  have HBX3 := Lib.hid (HBX.out.no (hm2.trans hm3))
  have HIS : Hid (invS 0 S) := H1.out.rd.two.inv
  have HLS : Hid (S.length = 2) := H1.out.rd.len
  have HM03 : Hid (Mod No w0 w3) := (H1.out.rd.mod.trans hm2).trans hm3
  clear z0 z1 z2 z3 hm2 hm3 hv2 hX hx3
  generalize w1.heap.size = base at HD
  generalize w2.heap.size = top at HD
  obtain ⟨z0, z1, z2, z3⟩ := HBX3.out.cells
  clear H1 HBX
  have HST := Lib.hid (Bk.Step.took hb)
  have HI1 : Hid (invS 0 (pokes (dueAt ps 0) S)) := invS_pokes _ HIS.out
  have HL1 : Hid ((pokes (dueAt ps 0) S).length = 2) := by rw [pokes_len]; exact HLS.out
  by_cases hr : 0 ≤ k.mfn ∧ k.mfn < S.length
  · obtain ⟨f, hf⟩ : ∃ f, (pokes (dueAt ps 0) S)[k.mfn.toNat]? = some f := ⟨_, List.getElem?_eq_getElem (by rw [pokes_len]; omega)⟩
    have HTK := Lib.hid (take_ok f w3 HD.out.cc hb ⟨by omega, by omega⟩ (by omega) hr hf)
    have HRT : Hid (∀ w', RV w0 X K pq pc ps 0 S c k w' → _) := fun w' (q : RV w0 X K pq pc ps 0 S c k w') => rtake_ok f w' q HPS.out hb ⟨by omega, by omega⟩ (by omega) hr hf
    have hfo : f.ok := HPS.out.okS HD.out.cc.p.ok 0 f (List.mem_of_getElem? hf)
    have hbl : ((f.bytes.drop k.slot.toNat).take 16).length = 16 := by have := hfo.1; unfold Bk.slot; simp; omega
    generalize (f.bytes.drop k.slot.toNat).take 16 = xs at HTK HRT hbl
    generalize pokes (dueAt ps 0) S = S1 at HTK HRT HI1 HL1
    clear HBX3 z1 z2 z3 hb hf hr hfo
    go_wp2_with fail
    refine HTK.out.mono ?_
    rintro e w4 ⟨g, rfl, hgl, _, hg4, hc4, hm4⟩
    have HC4 := Lib.hid hc4
    have HM4 := Lib.hid hm4
    have HG4 := Lib.hid hg4
    clear hc4 hm4 hg4 z0
    go_wp2_with fail
    refine (HRT.out _ (HD.out.mid HM4.out)).mono ?_
    rintro e w5 ⟨v, rfl, ho5, hr5, hm5⟩
    obtain ⟨q5, c5, rfl⟩ := owns_slice ho5
    have HD5 := Lib.hid (HD.out.pair HC4.out HM4.out (Mod.refl No _) hr5 hm5)
    have hg5 : w5.heap[g]? = some (.cells (xs.map (Value.int .u8)).toArray 5 (0, 0)) := by
      have hne : ¬ Q3 K X c g := by
        have hmd := HD.out.mid HM4.out
        rintro (q | q | q)
        · have h1 := HD.out.Kb g (RfK.inn_has q)
          have h2 := HD.out.cc.v.d.rng
          have h3 := lt_of_blk HD.out.cc.v.head
          omega
        · have h1 := hmd.x.head
          rw [← q, HG4.out] at h1; simp at h1
        · have h1 := hmd.bk
          unfold RBkM at h1
          rw [← q, HG4.out] at h1; simp at h1
      exact hm5.blk HG4.out hne
    obtain ⟨x0, x1, x2, _⟩ := HD5.out.rr.x.c
    have HRE : Hid (∀ n, Calls Try.prog 26 #[.pointer (some ⟨vk.V, 0, none⟩)] (w5.drewN n) fun e w' => e = .returned (.int .i64 (0 + 1)) ∧ w' = w5.drewN n) := fun n => (vreads_made ((HD5.out.no ((Mod.refl No w5).drewN n)).cc.v)).mono fun _ _ q => ⟨q.1, q.2.symm⟩
    have hv1 : ∀ q, (convert 31 9 (.slice (some ⟨g, 0, none⟩) 16 16)).run Try.prog (w5.drewN q) = .ok (.string (strOfNums xs)) (w5.drewN q) := fun q => conv_row (w := w5.drewN q) hg5 0 16 16 xs (by rw [List.drop_zero, List.take_of_length_le (by omega)]) (by omega)
    have hv2 : ∀ q, (convert 31 9 (.slice q5 16 c5)).run Try.prog (w5.drewN q) = .ok (.string (strOfNums xs)) (w5.drewN q) := fun q => conv_own (own_mod ho5 ((Mod.refl No w5).drewN q) (fun _ _ q => q))
    clear hr5 hm5 HD HTK HRT hg5 ho5 hgl
    go_wp2_with fail
    go_quiet ((go_at_call 26; exact Calls.quiet_of_same (HRE.out _)))
    go_wp2
    go_ret
    exact ⟨rfl, S1, k.took, HST.out, (HD5.out.no ((Mod.refl No w5).drewN _)).back HL1.out HI1.out⟩
  · have HTK := Lib.hid (take_bad w3 HD.out.cc hb ⟨by omega, by omega⟩ (by omega) hr)
    have HRT : Hid (∀ w', RV w0 X K pq pc ps 0 S c k w' → _) := fun w' (q : RV w0 X K pq pc ps 0 S c k w') => rtake_bad w' q HPS.out hb ⟨by omega, by omega⟩ (by omega) hr
    generalize pokes (dueAt ps 0) S = S1 at HTK HRT HI1 HL1
    clear HBX3 z1 z2 z3 hb hr
    go_wp2_with fail
    refine HTK.out.mono ?_
    rintro e w4 ⟨rfl, hc4, hm4⟩
    have HC4 := Lib.hid hc4
    have HM4 := Lib.hid hm4
    clear hc4 hm4 z0
    go_wp2_with fail
    refine (HRT.out _ (HD.out.mid HM4.out)).mono ?_
    rintro e w5 ⟨v, rfl, rfl, hr5, hm5⟩
    have HD5 := Lib.hid (HD.out.pair HC4.out HM4.out (Mod.refl No _) hr5 hm5)
    obtain ⟨x0, x1, x2, _⟩ := HD5.out.rr.x.c
    have HRE : Hid (∀ n, Calls Try.prog 26 #[.pointer (some ⟨vk.V, 0, none⟩)] (w5.drewN n) fun e w' => e = .returned (.int .i64 (0 + 1)) ∧ w' = w5.drewN n) := fun n => (vreads_made ((HD5.out.no ((Mod.refl No w5).drewN n)).cc.v)).mono fun _ _ q => ⟨q.1, q.2.symm⟩
    have hv1 : ∀ q, (convert 31 9 (.slice none 0 0)).run Try.prog (w5.drewN q) = .ok (.string (strOfNums [])) (w5.drewN q) := fun q => conv_nil8 _
    clear hr5 hm5 HD HTK HRT
    go_wp2_with fail
    go_quiet ((go_at_call 26; exact Calls.quiet_of_same (HRE.out _)))
    go_wp2
    go_ret
    exact ⟨rfl, S1, k.took, HST.out, (HD5.out.no ((Mod.refl No w5).drewN _)).back HL1.out HI1.out⟩

end Go.Proofs.Ytpfjpfepbhfmeaa
