/- ViewWords: a word is the two bytes that a read gives. -/
import Derived.Test.YthfkpbfapkpnfabLaw02Two
import Derived.BigQuiet
namespace Go.Proofs.Ythfkpbfapkpnfab
open Go.RowKit
set_option maxRecDepth 100000

set_option maxHeartbeats 16000000 in
theorem words_any (q0 : Option Addr) (l : List StD) (c0 : Nat) (q1 : Option Addr) (ps : List Pk) (c1 : Nat) (mfn off : Int) (w : World) (hs : StDS w q0 l) (hl : l.length * 40 ≤ 140737488355328) (hp : PkS w q1 ps) (hpl : ps.length * 48 ≤ 140737488355328) :
    Calls Try.prog 10 #[.slice q0 l.length c0, .slice q1 ps.length c1, .int .i64 mfn, .int .i64 off] w fun e w' => e = .returned (.bool true) ∧ Mod No w w' := by
  obtain ⟨S, hSl, hSI, hbeg⟩ := begin2_in l hs.ranges (by omega)
  have hpl2 : ps.length ≤ 140737488355328 := by omega
  have HS := Lib.hid hs
  have HP := Lib.hid hp
  have HB := Lib.hid hbeg
  have HSI := Lib.hid hSI
  clear hs hp hbeg hSI hSl hl
  go_enter Try.func10, Try.ntmps10
  go_wp2_with fail
  refine (HB.out w q0 c0 HS.out).mono ?_
  rintro e w1 ⟨B, F, K, rfl, h1⟩
  have H1 := Lib.hid h1
  clear h1
  go_wp2_with fail
  refine (HB.out w1 q0 c0 (HS.out.kept H1.out.mod)).mono ?_
  rintro e w2 ⟨B2, F2, K2, rfl, h2⟩
  have HT := Lib.hid (TwoB.of H1.out h2)
  clear h2 H1
  by_cases hlong : 64 < ps.length
  · go_wp2_with fail
    refine (vnew_long q1 ps.length c1 _ HT.out.a hlong hpl2).mono ?_
    rintro e w3 ⟨rfl, rfl⟩
    go_wp2_with fail
    refine (vnew_long q1 ps.length c1 _ HT.out.b hlong hpl2).mono ?_
    rintro e w3 ⟨rfl, rfl⟩
    go_wp2
    go_ret
    exact ⟨rfl, HT.out.mod⟩
  · go_wp2_with fail
    refine (vnew_in q1 ps c1 _ HT.out.a (HP.out.kept HT.out.mod) (by omega)).mono ?_
    rintro e w3 ⟨k, rfl, hm3, hv3⟩
    have HM3 := Lib.hid hm3
    have HV3 := Lib.hid hv3
    clear hm3 hv3
    go_wp2_with fail
    refine (vnew_in q1 ps c1 _ (HT.out.no HM3.out).b (HP.out.kept (HT.out.mod.trans HM3.out)) (by omega)).mono ?_
    rintro e w4 ⟨k2, rfl, hm4, hv4⟩
    have HW := Lib.hid (HT.out.views HM3.out HV3.out hm4 hv4)
    clear hm4 hv4 HM3 HV3 HT
    generalize w2.heap.size = b1 at HW
    generalize w3.heap.size = b2 at HW
    generalize w4.heap.size = t2 at HW
    have hz : (0 : Int) ≤ 0 ∧ (0 : Int) < 4611686018427387904 := by omega
    by_cases hin : InP S mfn off 2
    · obtain ⟨f, hf⟩ : ∃ f, (pokes (dueAt ps 0) S)[mfn.toNat]? = some f := ⟨_, List.getElem?_eq_getElem (by rw [pokes_len]; have := hin.1; omega)⟩
      have hfo : f.ok := HW.out.a.v.okS HW.out.a.p.ok 0 f (List.mem_of_getElem? hf)
      obtain ⟨x0, x1, hb, r0, r1⟩ : ∃ b0 b1 : Int, (f.bytes.drop off.toNat).take 2 = [b0, b1] ∧ (0 ≤ b0 ∧ b0 ≤ 255) ∧ (0 ≤ b1 ∧ b1 ≤ 255) := by
        have hp4 := hin.2
        have hln : ((f.bytes.drop off.toNat).take 2).length = 2 := by rw [List.length_take, List.length_drop, hfo.1]; omega
        have hm : ∀ x ∈ (f.bytes.drop off.toNat).take 2, 0 ≤ x ∧ x ≤ 255 := fun x hx => hfo.2 x (List.mem_of_mem_drop (List.mem_of_mem_take hx))
        match hq : (f.bytes.drop off.toNat).take 2, hln with
        | [b0, b1], _ => rw [hq] at hm; exact ⟨b0, b1, rfl, hm b0 (by simp), hm b1 (by simp)⟩
      have HA : Hid _ := Lib.hid (vword_ok mfn off f _ HW.out.a.p HW.out.a.v HW.out.a.F.2 hz hpl2 hin hf)
      have HINH := Lib.hid hin
      have HFH := Lib.hid hf
      have HBH := Lib.hid hb
      clear hf hfo hb hin
      go_wp2_with fail
      refine HA.out.mono ?_
      rintro e w5 ⟨rfl, ho⟩
      rw [HBH.out]
      have HW5 := Lib.hid (HW.out.stepA ho)
      clear ho HA
      go_wp2_with fail
      refine (vread_ok mfn off 2 f _ HW5.out.b.p HW5.out.b.v HW5.out.b.F.2 hz hpl2 HINH.out HFH.out).mono ?_
      rintro e w6 ⟨g, rfl, hg0, hg1, hrow, ho⟩
      rw [show ((2 : Int).toNat) = 2 from rfl, HBH.out] at hrow
      have HW6 := Lib.hid (HW5.out.stepB ho)
      have z0 := row_cell hrow 0
      have z1 := row_cell hrow 1
      simp only [List.map_cons, List.map_nil, List.getElem?_cons_zero, List.getElem?_cons_succ] at z0 z1
      clear ho hrow HW5 HW
      have ew : word2 [x0, x1] = x0 + 256 * x1 := rfl
      have ed : (x0 + 256 * x1 == x0 + 256 * x1) = true := beq_self_eq_true _
      rw [ew]
      go_wp2_with (first
        | (go_at_call 36; first | (refine (vreads_made HW6.out.a.v).mono ?_; rintro e w' ⟨rfl, rfl⟩) | (refine (vreads_made HW6.out.b.v).mono ?_; rintro e w' ⟨rfl, rfl⟩)))
      go_quiet (fail)
      go_wp2
      go_ret
      exact ⟨rfl, HW6.out.a.mod.drewN _⟩
    · have HA : Hid _ := Lib.hid (vword_bad mfn off _ HW.out.a.p HW.out.a.v HW.out.a.F.2 hz hpl2 hin)
      have HINH := Lib.hid hin
      clear hin
      go_wp2_with fail
      refine HA.out.mono ?_
      rintro e w5 ⟨rfl, ho⟩
      have HW5 := Lib.hid (HW.out.stepA ho)
      clear ho HA
      go_wp2_with fail
      refine (vread_bad mfn off 2 _ HW5.out.b.p HW5.out.b.v HW5.out.b.F.2 hz hpl2 HINH.out).mono ?_
      rintro e w6 ⟨rfl, ho⟩
      have HW6 := Lib.hid (HW5.out.stepB ho)
      clear ho HW5 HW
      go_wp2_with (first
        | (go_at_call 36; first | (refine (vreads_made HW6.out.a.v).mono ?_; rintro e w' ⟨rfl, rfl⟩) | (refine (vreads_made HW6.out.b.v).mono ?_; rintro e w' ⟨rfl, rfl⟩)))
      go_quiet (fail)
      go_wp2
      go_ret
      exact ⟨rfl, HW6.out.a.mod.drewN _⟩

end Go.Proofs.Ythfkpbfapkpnfab
