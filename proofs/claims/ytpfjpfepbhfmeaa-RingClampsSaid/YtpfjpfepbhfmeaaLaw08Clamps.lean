/- tenementlaw08.RingClamps: the walk. -/
import Derived.Test.YtpfjpfepbhfmeaaLaw08Ans
namespace Go.Proofs.Ytpfjpfepbhfmeaa
open Go.RowKit
set_option maxRecDepth 100000

theorem clamp_step {k k' : Bk} (ho : k.ok) (h : k.Step k') (hi : k.btw ≤ 8 ∧ k.wait ≤ 8) :
    ((k'.btw ≤ 8 ∧ k'.wait ≤ 8) ∧ (0 ≤ k'.btw ∧ 0 ≤ k'.wait)) ∧ ∃ d e : Int, (k'.inn - k.inn) % 65536 = d ∧ (k'.out - k.out) % 65536 = e ∧ (0 ≤ d ∧ d ≤ 1) ∧ (0 ≤ e ∧ e ≤ 1) ∧ k'.btw = k.btw + d - e := by
  have h1 := ho.i
  have h2 := ho.o
  have h3 := ho.s
  cases h with
  | stay => exact ⟨⟨hi, by unfold Bk.btw Bk.wait; omega⟩, 0, 0, by omega, by omega, by omega, by omega, by omega⟩
  | look n hn =>
    unfold Bk.btw Bk.wait at *
    simp only at *
    exact ⟨⟨by omega, by omega⟩, 0, 0, by omega, by omega, by omega, by omega, by omega⟩
  | took hb =>
    have hw : k.wait ≠ 0 ∧ ¬ 8 ≤ k.btw := ⟨fun q => hb (.inl q), fun q => hb (.inr q)⟩
    unfold Bk.btw Bk.wait Bk.took at *
    simp only at *
    exact ⟨⟨by omega, by omega⟩, 1, 0, by omega, by omega, by omega, by omega, by omega⟩
  | laid hb =>
    unfold Bk.btw Bk.wait Bk.laid at *
    simp only at *
    exact ⟨⟨by omega, by omega⟩, 0, 1, by omega, by omega, by omega, by omega, by omega⟩

set_option maxHeartbeats 8000000 in
theorem rclamps_any (q0 : Option Addr) (pg : List Int) (c0 : Nat) (q2 : Option Addr) (ops : List ROp) (c2 : Nat) (w : World) (hb : Byt w q0 pg c0) (ho : ROpS w q2 ops) (hol : ops.length * 64 ≤ 140737488355328) :
    Calls Try.prog 10 #[.slice q0 pg.length c0, .slice q2 ops.length c2] w fun e w' => e = .returned (.bool true) ∧ Mod No w w' := by
  have HB := Lib.hid (begin8_in q0 pg c0 w hb)
  have HO := Lib.hid ho
  clear hb ho
  go_enter Try.func10, Try.ntmps10
  go_wp2_with fail
  refine HB.out.mono ?_
  rintro e w1 ⟨B, F, K, rfl, h1⟩
  have H1 := Lib.hid h1
  clear h1 HB
  go_wp2_with fail
  refine (bnew_in 0 w1 (by omega)).mono ?_
  rintro e w2 ⟨rfl, hm2, hk2⟩
  go_wp2_with fail
  refine (rnew8_in 0 w2 (by omega)).mono ?_
  rintro e w3 ⟨rfl, hm3, hk3⟩
  have he : Eight w B F K w1.heap.size w2.heap.size (pageS pg) ⟨0, 0, 0, 0⟩ w3 :=
    ⟨(H1.out.no hm2).no hm3, hk2.no hm3, hk3, ⟨by simp, by simp, by simp⟩, by have := H1.out.mod.size; have := hm2.size; omega⟩
  have HE := Lib.hid he
  clear he hm2 hm3 hk2 hk3 H1
  generalize w1.heap.size = b at HE ⊢
  generalize w2.heap.size = c at HE ⊢
  go_wp2_with fail
  go_loopw [12, 13, 14] (fun vt vl v wr => ∃ (i : Nat) (tk ld : Int), i ≤ ops.length ∧ v = .int .i64 i ∧ vt = .int .i64 tk ∧ vl = .int .i64 ld ∧ (0 ≤ ld ∧ ld ≤ tk ∧ tk ≤ i) ∧ ∃ (S : List Fr) (k : Bk), Eight w B F K b c S k wr ∧ tk - ld = k.btw ∧ k.btw ≤ 8 ∧ k.wait ≤ 8) (fun _ _ v _ => ops.length - (intOf v).toNat)
  case atStart => exact ⟨0, 0, 0, Nat.zero_le _, rfl, rfl, rfl, by omega, _, _, HE.out, by simp [Bk.btw], by simp [Bk.btw], by simp [Bk.wait]⟩
  case round =>
    clear HE
    obtain ⟨i, tk, ld, hi, rfl, rfl, rfl, htl, S, k, hev, hbt, hb8, hw8⟩ := hrel
    have HEV := Lib.hid hev
    have HBT := Lib.hid (⟨hbt, hb8, hw8⟩ : _ ∧ _ ∧ _)
    clear hev hbt hb8 hw8
    by_cases hlt : i < ops.length
    · have hlt' : (i : Int) < ops.length := by omega
      have b0 : (0 : Int) ≤ i := by omega
      obtain ⟨o, ho⟩ : ∃ o, ops[i]? = some o := ⟨_, List.getElem?_eq_getElem hlt⟩
      obtain ⟨sb, so, rfl, _⟩ := HO.out.cellsAt ho
      obtain ⟨_, _, e, _, y0, y1, y2, y3⟩ := (HO.out.kept HEV.out.rd.mod).cellsAt ho
      cases e
      have HOK : Hid (o.ok w) := HO.out.ok o (List.mem_of_getElem? ho)
      clear ho
      go_wp2_with (first
        | (go_at_call 53; refine (taken_made _ HEV.out.eb).mono ?_; rintro e w' ⟨rfl, rfl⟩)
        | (go_at_call 54; refine (laid_made _ HEV.out.eb).mono ?_; rintro e w' ⟨rfl, rfl⟩))
      refine (play8_any o _ HEV.out HOK.out).mono ?_
      rintro e w4 ⟨rfl, S', k', hst, he⟩
      have HE4 := Lib.hid he
      obtain ⟨⟨h1, h2⟩, d, f, hd, hf, hdr, hfr, hbb⟩ := clamp_step HEV.out.ok hst ⟨HBT.out.2.1, HBT.out.2.2⟩
      have hwd : IntKind.u16.wrap (k'.inn - k.inn) = d := hd
      have hwf : IntKind.u16.wrap (k'.out - k.out) = f := hf
      have htl1 : 0 ≤ ld + f ∧ ld + f ≤ tk + d ∧ tk + d ≤ i + 1 := by have := HBT.out.1; omega
      have htl2 : tk + d - (ld + f) = k'.btw := by have := HBT.out.1; omega
      have hg1 : decide (tk + d < ld + f) = false := decide_eq_false (by omega)
      have hg2 : decide (8 < tk + d - (ld + f)) = false := decide_eq_false (by omega)
      have HWT := Lib.hid (waiting_made w4 he.eb he.ok)
      have HWT2 := Lib.hid (fun w' (hm : Mod No w4 w') => waiting_made w' (he.eb.no hm) he.ok)
      have HK' := Lib.hid (⟨htl2, h1.1, h1.2⟩ : _ ∧ _ ∧ _)
      have hw0 := h2.2
      have hw1 := h1.2
      generalize k'.wait = wt at HWT HWT2 hw0 hw1
      have hg3 : decide (8 < wt) = false := decide_eq_false (by omega)
      have hg4 : decide (wt < 0) = false := decide_eq_false (by omega)
      clear he hst hd hf hbb h1 h2 htl2 y0 y1 y2 y3
      go_wp2_with (first
        | (go_at_call 53; refine (taken_made _ HE4.out.eb).mono ?_; rintro e w' ⟨rfl, rfl⟩)
        | (go_at_call 54; refine (laid_made _ HE4.out.eb).mono ?_; rintro e w' ⟨rfl, rfl⟩)
        | (go_at_call 58; first | (refine HWT.out.mono ?_; rintro e w5 ⟨rfl, hm5⟩) | (refine (HWT2.out _ hm5).mono ?_; rintro e w6 ⟨rfl, hm6⟩)))
      go_roundw
      case rel => exact ⟨i + 1, tk + d, ld + f, by omega, by go_num, rfl, rfl, htl1, S', k', (HE4.out.no hm5).no hm6, HK'.out⟩
      case measure => simp [intOf]; omega
    · obtain rfl : i = ops.length := by omega
      go_wp2_with (go_at_call 55; refine (awake8 _).mono ?_; rintro e w' ⟨rfl, rfl⟩)
      go_ret
      exact ⟨rfl, HEV.out.rd.mod⟩

end Go.Proofs.Ytpfjpfepbhfmeaa
