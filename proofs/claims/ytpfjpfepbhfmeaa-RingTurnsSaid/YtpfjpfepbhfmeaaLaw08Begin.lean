/- tenementlaw08.begin, awake, slot. -/
import Derived.Test.YtpfjpfepbhfmeaaRingRAns
namespace Go.Proofs.Ytpfjpfepbhfmeaa
open Go.RowKit
set_option maxRecDepth 100000

/-- The frames behind begin. -/
def pageS (bs : List Int) : List Fr := wrR (upTo 2 2) 0 0 (bs.take 256)
theorem pageS_eq (bs : List Int) : pageS bs = [{ ownFr with bytes := splice ownFr.bytes 0 (bs.take 256) }, ownFr] := by
  unfold pageS
  rw [(wrR_in (f := ownFr) ⟨by simp [upTo_len], by omega, by omega, by simp; omega⟩ rfl (by decide)).1]
  rfl
theorem pageS_len (bs : List Int) : (pageS bs).length = 2 := by rw [pageS_eq]; rfl
theorem invS_wrR {m : Nat} {S : List Fr} (h : invS m S) (i off : Int) (bs : List Int) : invS m (wrR S i off bs) := by
  unfold wrR
  split
  · split
    · rename_i f hf
      have hv := h f (List.mem_of_getElem? hf)
      split
      · exact h
      · rename_i ho
        exact h.set _ ⟨fun q => absurd q ho, hv.own, hv.type, hv.count, hv.zero⟩
    · exact h
  · exact h

theorem Byt.cut {w : World} {q : Option Addr} {bs : List Int} {c : Nat} (h : Byt w q bs c) (n : Nat) : Byt w q (bs.take n) c := by
  refine ⟨fun x hx => h.range x (List.mem_of_mem_take hx), by have := h.fit; simp; omega, by have := h.len; simp; omega, fun e => by rw [(h.nil e).1]; exact ⟨by simp, (h.nil e).2⟩, fun h0 => ?_⟩
  obtain ⟨b, off, e, hb, hc⟩ := h.at_ (by simp at h0; omega)
  refine ⟨b, off, e, hb, fun j x hj => hc j x ?_⟩
  have hjl := (List.getElem?_eq_some_iff.1 hj).1
  rwa [List.getElem?_take_of_lt (by simp at hjl; omega)] at hj

theorem awake8 (w : World) : Calls Try.prog 55 #[] w fun e w' => e = .returned (.bool true) ∧ w = w' := by
  have HA := Lib.hid (ahead_any 65535 0 w)
  rw [show aheadR 65535 0 = (8, true) from rfl] at HA
  go_enter Try.func55, Try.ntmps55
  go_wp2_with (go_at_call 101; refine HA.out.mono ?_; rintro e w' ⟨rfl, rfl⟩)
  go_ret
  exact ⟨rfl, rfl⟩

set_option maxHeartbeats 8000000 in
theorem begin8_in (q : Option Addr) (bs : List Int) (c : Nat) (w : World) (hb : Byt w q bs c) :
    Calls Try.prog 47 #[.slice q bs.length c] w fun e w' => ∃ B F K, e = .returned (.tuple #[.pointer (some ⟨B, 0, none⟩), .pointer (some ⟨K.R, 0, none⟩), .bool true]) ∧ RoundS w B F 2 0 K (pageS bs) w' := by
  have HBY := Lib.hid hb
  have hbl := hb.len
  have hfit := hb.fit
  clear hb
  go_enter Try.func47, Try.ntmps47
  go_wp2_with fail
  refine (new_in 2 _ (by omega) (by omega)).mono ?_
  rintro e w1 ⟨B, F, rfl, hB, hF, hm1, hP1⟩
  go_wp2_with fail
  refine (rnew_in 2 _ (by omega) (by omega)).mono ?_
  rintro e w2 ⟨K0, rfl, hK, hm2, hR2⟩
  have hm12 := hm1.trans hm2
  have hs1 := hm1.size
  have h0 : RoundS w B F 2 0 K0 (upTo 2 0) w2 := by
    have e : upTo 2 0 = List.replicate 2 freeFr := by simp [upTo]
    rw [e]
    exact ⟨⟨hP1.kept hm2 (fun q => q) (fun q => q), hR2, invS_new _ _⟩, by simp, hm12, hF, fun k hk => by have := hK k hk; omega⟩
  obtain ⟨R0, hR0⟩ : ∃ R0, R0 = K0.R := ⟨_, rfl⟩
  rw [← hR0]
  have HR0 := Lib.hid hR0
  have H0 := Lib.hid h0
  clear hR0 h0 hP1 hR2 hm1 hm2 hm12 hK hB hF
  go_wp2_with fail
  go_loopw [9] (fun v wr => ∃ i : Nat, i ≤ 2 ∧ v = .int .i64 i ∧ ∃ K, RoundS w B F 2 0 K (upTo 2 i) wr ∧ K.R = R0) (fun v _ => 2 - (intOf v).toNat)
  case atStart => exact ⟨0, Nat.zero_le _, rfl, K0, H0.out, HR0.out.symm⟩
  case round =>
    obtain ⟨i, hi, rfl, K, hrd, hKR⟩ := hrel
    by_cases hlt : i < 2
    · have hlt' : (i : Int) < 2 := by omega
      obtain ⟨hA, hRA⟩ := upTo_alloc hlt
      have HA := Lib.hid (hA wr B F hrd.two.p)
      have hq : ∀ w3, Mod (One F) wr w3 → Calls Try.prog 69 #[.pointer (some ⟨K.R, 0, none⟩), .int .i64 0] w3 (ROut K (.tuple #[.int .i64 i, .int .i64 0]) (upTo 2 (i + 1)) w3) :=
        fun w3 hm => hRA w3 K (hrd.two.r.kept hm (fun k hk (e : k = F) => (hrd.two.r.ne_phys hrd.two.p).2 (e ▸ hk)))
      rw [hKR] at hq
      have HQ := Lib.hid hq
      have HRD := Lib.hid hrd
      have HKR := Lib.hid hKR
      clear hA hRA hq hrd hKR
      go_wp2_with fail
      refine HA.out.mono ?_
      rintro e w3 hpo
      have HPO := Lib.hid hpo
      obtain ⟨rfl, hm3, _⟩ := hpo
      go_wp2_with fail
      refine (HQ.out _ hm3).mono ?_
      rintro e w4 hro
      obtain ⟨K', hrd', hK'⟩ := HRD.out.pair (Mod.refl No wr) HPO.out hro (invS_upTo 0 2 (i + 1)) (by rw [upTo_len (by omega), upTo_len (by omega)])
      obtain ⟨_, rfl, _⟩ := hro
      have HRD' := Lib.hid hrd'
      have HK' := Lib.hid (hK'.trans HKR.out)
      clear hm3 HPO HQ HA hrd' hK'
      go_wp2
      go_roundw
      case rel => exact ⟨i + 1, by omega, by go_num, K', HRD'.out, HK'.out⟩
      case measure => simp [intOf]; omega
    · obtain rfl : i = 2 := by omega
      have HRD := Lib.hid hrd
      have HKR := Lib.hid hKR
      have HB2 := Lib.hid ((HBY.out.cut 256).kept hrd.mod)
      have hPW := pwrite_any 0 0 q c (bs.take 256) wr hrd.two.p HB2.out.src
      have hRW : ∀ w3, Mod (One F) wr w3 → Calls Try.prog 79 #[.pointer (some ⟨K.R, 0, none⟩), .int .i64 0, .int .i64 0, .slice q (bs.take 256).length c] w3 (ROut K (.int .i64 (wrE (upTo 2 2) 0 0 (bs.take 256).length)) (pageS bs) w3) := fun w3 hm => by
        refine (rwrite_any 0 0 q c (bs.take 256) w3 (hrd.two.r.kept hm (fun k hk (e : k = F) => (hrd.two.r.ne_phys hrd.two.p).2 (e ▸ hk))) HB2.out.range (fun h0 => ?_)).mono (fun e w' q => ROut.inn q)
        obtain ⟨b, off, e, hb, hc⟩ := (HBY.out.cut 256).at_ h0
        refine ⟨b, off, e, fun q => by have := hrd.K b (RfK.inn_has q); omega, HB2.out.fit, fun j x hj => ?_⟩
        have hbF : b ≠ F := by have := hrd.F; omega
        exact (World.cell?_of_block (w := wr) (hm.block b (Nat.lt_of_lt_of_le hb hrd.mod.size) hbF)).trans ((World.cell?_of_block (w := w) (hrd.mod.block b hb (fun q => q))).trans (hc j x hj))
      rw [hKR] at hRW
      rw [show wrR (upTo 2 2) 0 0 (bs.take 256) = pageS bs from rfl] at hPW
      generalize wrE (upTo 2 2) 0 0 (bs.take 256).length = r at hPW hRW
      have hln : (bs.take 256).length = min 256 bs.length := List.length_take
      have HPW := Lib.hid hPW
      have HRW := Lib.hid hRW
      clear hrd hKR hPW hRW
      by_cases hlong : 256 < bs.length
      · have d1 : decide (256 < (bs.length : Int)) = true := decide_eq_true (by omega)
        have e1 : (256 : Int) ≤ c := by omega
        rw [show (bs.take 256).length = 256 by omega] at HPW HRW
        go_wp2_with fail
        refine HPW.out.mono ?_
        rintro e w3 ⟨rfl, hm3, hp3⟩
        go_wp2_with fail
        refine (HRW.out _ hm3).mono ?_
        rintro e w4 hro
        obtain ⟨K', hrd', hK'⟩ := HRD.out.pair (Mod.refl No wr) (⟨rfl, hm3, hp3⟩ : POut B F (.int .i64 r) (pageS bs) wr (.returned (.int .i64 r)) w3) hro (invS_wrR (invS_upTo 0 2 2) _ _ _) (by rw [pageS_len, upTo_len (by omega)])
        obtain ⟨_, rfl, _⟩ := hro
        have HRD' := Lib.hid hrd'
        have HK' := Lib.hid (hK'.trans HKR.out)
        clear hm3 hp3 hrd' hK' HPW HRW
        go_wp2
        go_ret3
        exact ⟨B, F, K', by rw [HK'.out]; rfl, HRD'.out⟩
      · have d1 : decide (256 < (bs.length : Int)) = false := decide_eq_false (by omega)
        rw [show (bs.take 256).length = bs.length by omega] at HPW HRW
        go_wp2_with fail
        refine HPW.out.mono ?_
        rintro e w3 ⟨rfl, hm3, hp3⟩
        go_wp2_with fail
        refine (HRW.out _ hm3).mono ?_
        rintro e w4 hro
        obtain ⟨K', hrd', hK'⟩ := HRD.out.pair (Mod.refl No wr) (⟨rfl, hm3, hp3⟩ : POut B F (.int .i64 r) (pageS bs) wr (.returned (.int .i64 r)) w3) hro (invS_wrR (invS_upTo 0 2 2) _ _ _) (by rw [pageS_len, upTo_len (by omega)])
        obtain ⟨_, rfl, _⟩ := hro
        have HRD' := Lib.hid hrd'
        have HK' := Lib.hid (hK'.trans HKR.out)
        clear hm3 hp3 hrd' hK' HPW HRW
        go_wp2
        go_ret3
        exact ⟨B, F, K', by rw [HK'.out]; rfl, HRD'.out⟩

end Go.Proofs.Ytpfjpfepbhfmeaa
