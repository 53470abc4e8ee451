/- tenementlaw08.RingPlays: the walk. -/
import Derived.Test.YtpfjpfepbhfmeaaLaw08Ans
namespace Go.Proofs.Ytpfjpfepbhfmeaa
open Go.RowKit
set_option maxRecDepth 100000

theorem Bk.Step.mfn {k k' : Bk} (h : k.Step k') : k'.mfn = k.mfn := by cases h <;> rfl

set_option maxHeartbeats 8000000 in
theorem rplays_any (q0 : Option Addr) (pg : List Int) (c0 : Nat) (mfn : Int) (q2 : Option Addr) (ops : List ROp) (c2 : Nat) (w : World) (hb : Byt w q0 pg c0) (ho : ROpS w q2 ops) (hol : ops.length * 64 ≤ 140737488355328) :
    Calls Try.prog 11 #[.slice q0 pg.length c0, .int .i64 mfn, .slice q2 ops.length c2] w fun e w' => e = .returned (.bool true) ∧ Mod No w w' := by
  have HB := Lib.hid (begin8_in q0 pg c0 w hb)
  have HO := Lib.hid ho
  clear hb ho
  go_enter Try.func11, Try.ntmps11
  go_wp2_with fail
  refine HB.out.mono ?_
  rintro e w1 ⟨B, F, K, rfl, h1⟩
  have H1 := Lib.hid h1
  clear h1 HB
  by_cases hm : mfn < 0 ∨ 256 ≤ mfn
  · go_wp2_with fail
    refine (bnew_out mfn w1 hm).mono ?_
    rintro e w2 ⟨rfl, rfl⟩
    go_wp2_with fail
    refine (rnew8_out mfn w1 hm).mono ?_
    rintro e w2 ⟨rfl, rfl⟩
    go_wp2_with (go_at_call 55; refine (awake8 _).mono ?_; rintro e w' ⟨rfl, rfl⟩)
    go_ret
    exact ⟨rfl, H1.out.mod⟩
  · go_wp2_with fail
    refine (bnew_in mfn w1 (by omega)).mono ?_
    rintro e w2 ⟨rfl, hm2, hk2⟩
    go_wp2_with fail
    refine (rnew8_in mfn w2 (by omega)).mono ?_
    rintro e w3 ⟨rfl, hm3, hk3⟩
    have he : Eight w B F K w1.heap.size w2.heap.size (pageS pg) ⟨mfn, 0, 0, 0⟩ w3 :=
      ⟨(H1.out.no hm2).no hm3, hk2.no hm3, hk3, ⟨by simp, by simp, by simp⟩, by have := H1.out.mod.size; have := hm2.size; omega⟩
    have HE := Lib.hid he
    clear he hm2 hm3 hk2 hk3 H1
    generalize w1.heap.size = b at HE ⊢
    generalize w2.heap.size = c at HE ⊢
    go_wp2_with fail
    go_loopw [14] (fun v wr => ∃ i : Nat, i ≤ ops.length ∧ v = .int .i64 i ∧ ∃ (S : List Fr) (k : Bk), k.mfn = mfn ∧ Eight w B F K b c S k wr) (fun v _ => ops.length - (intOf v).toNat)
    case atStart => exact ⟨0, Nat.zero_le _, rfl, _, _, rfl, HE.out⟩
    case round =>
      clear HE
      obtain ⟨i, hi, rfl, S, k, hkm, hev⟩ := hrel
      have HEV := Lib.hid hev
      have HKM := Lib.hid hkm
      clear hev hkm
      by_cases hlt : i < ops.length
      · have hlt' : (i : Int) < ops.length := by omega
        have b0 : (0 : Int) ≤ i := by omega
        obtain ⟨o, ho⟩ : ∃ o, ops[i]? = some o := ⟨_, List.getElem?_eq_getElem hlt⟩
        obtain ⟨sb, so, rfl, _⟩ := HO.out.cellsAt ho
        obtain ⟨_, _, e, _, y0, y1, y2, y3⟩ := (HO.out.kept HEV.out.rd.mod).cellsAt ho
        cases e
        have HOK : Hid (o.ok w) := HO.out.ok o (List.mem_of_getElem? ho)
        clear ho
        go_wp2_with fail
        go_region_with (first
          | (go_at_call 57; refine (play8_any o _ (HEV.out.no ((Mod.refl No _).drew)) HOK.out).mono ?_; rintro e w4 ⟨rfl, S', k', hst, he⟩; have HE4 := Lib.hid he; have HMF := Lib.hid (hst.mfn.trans HKM.out); have x1 := he.ec.c.2.1; have x2 := he.ec.c.2.2.1; clear he hst)
          | (go_at_call 53; refine (taken_made _ HE4.out.eb).mono ?_; rintro e w' ⟨rfl, rfl⟩)
          | (go_at_call 54; refine (laid_made _ HE4.out.eb).mono ?_; rintro e w' ⟨rfl, rfl⟩)
          | (go_at_call 58; refine (waiting_made _ HE4.out.eb HE4.out.ok).mono ?_; rintro e w5 ⟨rfl, hm5⟩; have HM5 := Lib.hid hm5; clear hm5)
          | (go_at_call 59; refine (rwaiting_made _ (HE4.out.ec.no HM5.out)).mono ?_; rintro e w6 ⟨rfl, hd6⟩; have HM6 : Hid (Mod No w4 w6) := (by obtain ⟨m, rfl⟩ := hd6; exact HM5.out.drewN m); clear hd6)
          | (go_at_call 60; have hq := bmfn_made _ (HE4.out.eb.no HM6.out); rw [HMF.out] at hq; refine hq.mono ?_; clear hq; rintro e w' ⟨rfl, rfl⟩))
        all_goals
          clear x1 x2
          go_wp2
          go_roundw
          case rel => exact ⟨i + 1, by omega, by go_num, S', k', HMF.out, HE4.out.no HM6.out⟩
          case measure => simp [intOf]; omega
      · obtain rfl : i = ops.length := by omega
        obtain ⟨f, hf⟩ : ∃ f, S[0]? = some f := ⟨_, List.getElem?_eq_getElem (by rw [HEV.out.rd.len]; omega)⟩
        have HRD := Lib.hid (read_in 0 0 256 f wr HEV.out.rd.two.p ⟨by rw [HEV.out.rd.len]; omega, by omega, by omega, by omega⟩ hf)
        have hl := (HEV.out.rd.two.p.ok f (List.mem_of_getElem? hf)).1
        have HF := Lib.hid hf
        have hln := HEV.out.rd.len
        clear hf
        go_wp2_with fail
        refine HRD.out.mono ?_
        rintro e w8 ⟨rfl, hm8, _, hg8⟩
        rw [show (f.bytes.drop (0 : Int).toNat).take (256 : Int).toNat = f.bytes from List.take_of_length_le (by rw [show (f.bytes.drop (0 : Int).toNat) = f.bytes from rfl, hl]; exact Nat.le_refl _)] at hg8
        have hR8 := HEV.out.rd.two.r.keptNo hm8
        obtain ⟨cB8, hcB8, hB8⟩ := hR8.cB
        obtain ⟨rb, rc, hrc, hbl', hcR, hcx, _⟩ := hR8.cR HF.out
        rw [hln] at hB8 hcB8
        have hv2 := conv_ref (c := rc) hR8 HF.out hcx
        have hv1 : ∀ q, (convert 31 9 (.slice (some ⟨wr.heap.size, 0, none⟩) 256 256)).run Try.prog (w8.drewN q) = .ok (.string (strOfNums f.bytes)) (w8.drewN q) :=
          fun q => conv_row (w := w8.drewN q) hg8 0 256 256 f.bytes (by rw [List.drop_zero, List.take_of_length_le (by omega)]) (by omega)
        have HM8 := Lib.hid (HEV.out.rd.mod.trans hm8)
        clear hm8 hR8 hg8 hcx hbl' hl hln
        go_wp2_with fail
        go_quiet ((go_at_call 55; exact Calls.quiet_of_same ((awake8 _).mono fun _ _ q => ⟨q.1, q.2.symm⟩)))
        go_wp2
        go_ret
        exact ⟨rfl, HM8.out.drewN _⟩

end Go.Proofs.Ytpfjpfepbhfmeaa
