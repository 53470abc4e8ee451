/- tenementlaw01.PhysCopies: the walk. -/
import Derived.Test.YthfkpbfapkpnfabFour
import Derived.Test.YthfkpbfapkpnfabRefCopy
import Derived.Test.YthfkpbfapkpnfabPhysCopy
namespace Go.Proofs.Ythfkpbfapkpnfab
open Go.RowKit
set_option maxRecDepth 100000

theorem Four.of_copy {w0 w w1 w2 : World} {B F C G n m : Nat} {K L : RfK} {S : List Fr} (h : RoundS w0 B F n m K S w) (hm1 : Mod No w w1) (hP : PhM w1 C G S) (hG : w.heap.size ≤ G) (hm2 : Mod No w1 w2) (hL : ∀ k, L.has k → w1.heap.size ≤ k) (hR : RfM w2 L S) :
    Four w0 w2 B F C G n m K L S S := by
  have hm := hm1.trans hm2
  have h2 := hm1.size
  have h0 := h.mod.size
  refine ⟨⟨⟨h.two.p.kept hm (fun q => q) (fun q => q), h.two.r.keptNo hm, h.two.inv⟩, h.len, h.mod.trans hm, h.F, h.K⟩, ⟨⟨hP.kept hm2 (fun q => q) (fun q => q), hR, h.two.inv⟩, h.len, h.mod.trans hm, by omega, fun k hk => by have := hL k hk; omega⟩, ?_, ?_⟩
  · rintro rfl
    have := h.two.p.ltF
    omega
  · intro k hk hl
    have := h.two.r.lt k hk
    have := hL k hl
    omega

set_option maxHeartbeats 4000000 in
theorem copies_any (n : Int) (hn : 0 ≤ n ∧ n ≤ 255) (p p2 : Option Addr) (ops ops2 : List OpD) (cap cap2 : Nat) (w : World) (hs : Scr w p ops) (hlen : ops.length * 56 ≤ 140737488355328) (hs2 : Scr w p2 ops2) (hlen2 : ops2.length * 56 ≤ 140737488355328) :
    Calls Try.prog 8 #[.int .u8 n, .slice p ops.length cap, .slice p2 ops2.length cap2] w fun e w' => e = .returned (.bool true) ∧ Mod No w w' := by
  obtain ⟨N, hN⟩ : ∃ N : Nat, (N : Int) = 1 + n % 8 := ⟨(1 + n % 8).toNat, by omega⟩
  have hN1 : 1 ≤ N := by omega
  have hN2 : N ≤ 8 := by omega
  have HS := Lib.hid hs; clear hs
  have HS2 := Lib.hid hs2; clear hs2
  go_enter Try.func8, Try.ntmps8
  go_wp2_with fail
  rw [← hN]
  refine (new_in N _ hN1 (by omega)).mono ?_
  rintro e w1 ⟨B, F, rfl, hB, hF, hm1, hP1⟩
  go_wp2_with fail
  rw [← hN]
  refine (rnew_in N _ hN1 (by omega)).mono ?_
  rintro e w2 ⟨K0, rfl, hK, hm2, hR2⟩
  have hm12 := hm1.trans hm2
  have hs1 := hm1.size
  have h0 : RoundS w B F N 0 K0 (List.replicate N freeFr) w2 := ⟨⟨hP1.kept hm2 (fun q => q) (fun q => q), hR2, invS_new _ _⟩, by simp, hm12, hF, fun k hk => by have := hK k hk; omega⟩
  obtain ⟨R0, hR0⟩ : ∃ R0, R0 = K0.R := ⟨_, rfl⟩
  rw [← hR0]
  have HR0 := Lib.hid hR0
  clear hR0 hP1 hR2 hm1 hm2 hm12 hK hN
  go_wp2_with fail
  go_loopw [12] (fun v wr => ∃ i : Nat, i ≤ ops.length ∧ v = .int .i64 i ∧ ∃ K S, RoundS w B F N i K S wr ∧ K.R = R0) (fun v _ => ops.length - (intOf v).toNat)
  case atStart => exact ⟨0, Nat.zero_le _, rfl, K0, _, h0, HR0.out.symm⟩
  case round =>
    obtain ⟨i, hi, rfl, K, S, hrd, hKR⟩ := hrel
    clear h0
    by_cases hlt : i < ops.length
    · obtain ⟨o, ho⟩ : ∃ o, ops[i]? = some o := ⟨_, List.getElem?_eq_getElem hlt⟩
      have hscr := HS.out.kept hrd.mod
      obtain ⟨sb, so, rfl, c0, c1, c2, c3, c4⟩ := hscr.cells5 ho
      have hok := HS.out.ok o (List.mem_of_getElem? ho)
      have hbts := hok.bts hrd.mod hrd.F hrd.K
      have hpl := play_any (m := i) (by omega) o.what o.a o.b o.c o.q o.bs o.cap wr hrd.two hbts hok.len
      rw [hKR] at hpl
      have HPL := Lib.hid hpl
      have HRD := Lib.hid hrd
      have HKR := Lib.hid hKR
      clear hpl hrd hKR hbts hok hscr ho
      go_wp2_with fail
      refine HPL.out.mono ?_
      rintro e w3 ⟨rfl, ht3⟩
      obtain ⟨K3, S3, hrd3, hK3⟩ := HRD.out.play ht3
      have hKR3 : K3.R = R0 := by rw [hK3, HKR.out]
      have HRD3 := Lib.hid hrd3
      have HKR3 := Lib.hid hKR3
      clear ht3 hK3 HPL HRD HKR hrd3 hKR3
      go_wp2
      go_roundw
      case rel => exact ⟨i + 1, by omega, by go_num, K3, S3, HRD3.out, HKR3.out⟩
      case measure => simp [intOf]; omega
    · obtain rfl : i = ops.length := by omega
      have HRD := Lib.hid hrd
      have HKR := Lib.hid hKR
      clear hrd hKR
      go_wp2_with fail
      refine (copy_in _ HRD.out.two.p).mono ?_
      rintro e w3 ⟨C, G, rfl, hC, hG, hm3, hP3⟩
      have hrc := rcopy_in w3 (HRD.out.two.r.keptNo hm3)
      rw [HKR.out] at hrc
      have HRC := Lib.hid hrc
      clear hrc
      go_wp2_with fail
      refine HRC.out.mono ?_
      rintro e w4 ⟨L, rfl, hL, hm4, hR4⟩
      have h4 := Four.of_copy HRD.out hm3 hP3 hG hm4 hL hR4
      have htold := told_yes (m := ops.length) w4 ⟨h4.c.two.p, h4.a.two.r, h4.a.two.inv⟩
      rw [HKR.out] at htold
      have HTD := Lib.hid htold
      have H4 := Lib.hid h4
      obtain ⟨R1, hR1⟩ : ∃ R1, R1 = L.R := ⟨_, rfl⟩
      rw [← hR1]
      have HR1 := Lib.hid hR1
      clear hR1 htold h4 hm3 hP3 hm4 hL hR4 hC hG HRC
      go_wp2_with fail
      refine HTD.out.mono ?_
      rintro e w5 ⟨rfl, hm5⟩
      have H5 := Lib.hid (H4.out.mod hm5)
      clear hm5 HTD
      go_wp2_with fail
      go_loopw [15] (fun v wr => ∃ i : Nat, i ≤ ops2.length ∧ v = .int .i64 i ∧ ∃ K L S T, Four w wr B F C G N (ops.length + i) K L S T ∧ K.R = R0 ∧ L.R = R1) (fun v _ => ops2.length - (intOf v).toNat)
      case atStart => exact ⟨0, Nat.zero_le _, rfl, K, L, S, S, H5.out, HKR.out, HR1.out.symm⟩
      case round =>
        obtain ⟨i, hi, rfl, K, L, S, T, hfr, hKR, hLR⟩ := hrel
        by_cases hlt : i < ops2.length
        · obtain ⟨o, ho⟩ : ∃ o, ops2[i]? = some o := ⟨_, List.getElem?_eq_getElem hlt⟩
          have hscr := HS2.out.kept hfr.a.mod
          obtain ⟨sb, so, rfl, c0, c1, c2, c3, c4⟩ := hscr.cells5 ho
          have hok := HS2.out.ok o (List.mem_of_getElem? ho)
          by_cases hpar : (i : Int) % 2 = 0
          · have dp : ((i : Int) % 2 == 0) = true := beq_iff_eq.2 hpar
            have hbts := hok.bts hfr.c.mod hfr.c.F hfr.c.K
            have hpl := play_any (m := ops.length + i) (by omega) o.what o.a o.b o.c o.q o.bs o.cap wr hfr.c.two hbts hok.len
            rw [hLR] at hpl
            have HPL := Lib.hid hpl
            have HFR := Lib.hid hfr
            have HK := Lib.hid hKR
            have HL := Lib.hid hLR
            clear hpl hfr hKR hLR hbts hok hscr ho hpar
            go_wp2_with fail
            refine HPL.out.mono ?_
            rintro e w6 ⟨rfl, ht6⟩
            obtain ⟨K6, S6, hf6, hK6⟩ := HFR.out.swap.play ht6
            have H6 := Lib.hid hf6
            have HK6 := Lib.hid hK6
            clear ht6 hf6 hK6 HPL HFR
            go_wp2
            go_roundw
            case rel => exact ⟨i + 1, by omega, by go_num, K, K6, S, S6, H6.out.swap, HK.out, by rw [HK6.out, HL.out]⟩
            case measure => simp [intOf]; omega
          · have dp : ((i : Int) % 2 == 0) = false := beq_eq_false_iff_ne.2 hpar
            have hbts := hok.bts hfr.a.mod hfr.a.F hfr.a.K
            have hpl := play_any (m := ops.length + i) (by omega) o.what o.a o.b o.c o.q o.bs o.cap wr hfr.a.two hbts hok.len
            rw [hKR] at hpl
            have HPL := Lib.hid hpl
            have HFR := Lib.hid hfr
            have HK := Lib.hid hKR
            have HL := Lib.hid hLR
            clear hpl hfr hKR hLR hbts hok hscr ho hpar
            go_wp2_with fail
            refine HPL.out.mono ?_
            rintro e w6 ⟨rfl, ht6⟩
            obtain ⟨K6, S6, hf6, hK6⟩ := HFR.out.play ht6
            have H6 := Lib.hid hf6
            have HK6 := Lib.hid hK6
            clear ht6 hf6 hK6 HPL HFR
            go_wp2
            go_roundw
            case rel => exact ⟨i + 1, by omega, by go_num, K6, L, S6, T, H6.out, by rw [HK6.out, HK.out], HL.out⟩
            case measure => simp [intOf]; omega
        · obtain rfl : i = ops2.length := by omega
          have ht1 := told_yes (m := ops.length + ops2.length) wr hfr.a.two
          have hmod := hfr.a.mod
          have HT2 : Hid (∀ w', Mod No wr w' → Calls Try.prog 37 #[.pointer (some ⟨C, 0, none⟩), .pointer (some ⟨L.R, 0, none⟩)] w' fun e w2 => e = .returned (.bool true) ∧ Mod No w' w2) :=
            fun w' hm => told_yes (m := ops.length + ops2.length) w' (hfr.mod hm).c.two
          rw [hKR] at ht1
          rw [hLR] at HT2
          have HT1 := Lib.hid ht1
          clear ht1 hfr hKR hLR
          go_wp2_with fail
          refine HT1.out.mono ?_
          rintro e w6 ⟨rfl, hm6⟩
          go_wp2_with fail
          refine (HT2.out _ hm6).mono ?_
          rintro e w7 ⟨rfl, hm7⟩
          have hmm := (hmod.trans hm6).trans hm7
          go_wp2_with (go_at_call 28; refine (awake_yes _).mono ?_; rintro e w' ⟨rfl, hm2⟩)
          go_ret
          exact ⟨rfl, hmm.trans hm2⟩

end Go.Proofs.Ythfkpbfapkpnfab
