/- tenementlaw19.writable: a frame that some address lets be written. -/
import Derived.Test.YtlbebneblmgdcaaDoorCoreLittleP
import Derived.Test.YtlbebneblmgdcaaDoorBothG
import Derived.Deep.DeepCutAuto
import Derived.RegionTactic
import Derived.IntWalk
namespace Go.Proofs.YtlbebneblmgdcaaDoor
open Go.RowKit
set_option maxRecDepth 100000

theorem rjoin_in (l2 l1 : Nat) (h2 : l2 < 64) (h1 : l1 < 64) (w : World) : Calls Tryd.prog 21 #[.int .i64 l2, .int .i64 l1, .int .i64 0] w fun e w' => e = .returned (.tuple #[.int .u32 (((l2 : Int) * 64 + l1) * 256), .int .i64 0]) ∧ w = w' := by
  have d1 : decide ((l2 : Int) < 0) = false := decide_eq_false (by omega)
  have d2 : decide ((l2 : Int) > 63) = false := decide_eq_false (by omega)
  have d3 : decide ((l1 : Int) < 0) = false := decide_eq_false (by omega)
  have d4 : decide ((l1 : Int) > 63) = false := decide_eq_false (by omega)
  have e4 : (((l2 : Int) * 64 + l1) * 256) % 4294967296 = ((l2 : Int) * 64 + l1) * 256 := by omega
  go_enter Tryd.func21, Tryd.ntmps21
  go_wp2
  go_ret2
  exact ⟨rfl, rfl⟩

set_option maxHeartbeats 4000000 in
theorem writable_yes {K : RfK} {S : List Fr} (i : Nat) (w : World) (hR : RfM w K S) (h : CanWrite S i) :
    Calls Tryd.prog 8 #[.pointer (some ⟨K.R, 0, none⟩), .int .i64 i] w fun e w' => e = .returned (.bool true) ∧ Mod No w w' := by
  obtain ⟨l2, l1, h2, h1, he, hi⟩ := h
  have HWK := Lib.hid (fun (a k : Nat) (ha : a < 64) (hk : k < 64) (w' : World) (hm : Mod No w w') => rwalk_any 0 (((a : Int) * 64 + k) * 256) true w' (hR.keptNo hm) (by omega) (by omega))
  have HE := Lib.hid (⟨he, hi⟩ : _ ∧ _)
  have HB := Lib.hid (⟨h2, h1⟩ : _ ∧ _)
  clear hR he hi h2 h1
  go_enter Tryd.func8, Tryd.ntmps8
  go_wp2_with fail
  go_loopw [5] (fun v wr => ∃ a : Nat, a ≤ l2 ∧ v = .int .i64 a ∧ Mod No w wr) (fun v _ => l2 - (intOf v).toNat)
  case atStart => exact ⟨0, Nat.zero_le _, rfl, Mod.refl _ _⟩
  case round =>
    obtain ⟨a, ha, rfl, hm⟩ := hrel
    have hlt : (a : Int) < 64 := by have := HB.out; omega
    have HM := Lib.hid hm
    clear hm
    go_wp2_with fail
    go_loopw [6] (fun v wx => ∃ k : Nat, (k ≤ 64 ∧ (a = l2 → k ≤ l1)) ∧ v = .int .i64 k ∧ Mod No w wx) (fun v _ => 64 - (intOf v).toNat)
    case atStart => exact ⟨0, ⟨by omega, fun _ => Nat.zero_le _⟩, rfl, HM.out⟩
    case round =>
      clear HM
      obtain ⟨k, hk, rfl, hm⟩ := hrel
      have HK := Lib.hid hk
      have HM := Lib.hid hm
      by_cases hk6 : k < 64
      · have hk6' : (k : Int) < 64 := by omega
        have hwk := HWK.out a k (by have := HB.out; omega) hk6
        have hne : ¬ ((walkR S 0 (((a : Int) * 64 + k) * 256) true).2.2 = 0 ∧ (walkR S 0 (((a : Int) * 64 + k) * 256) true).1 = i) → ¬ (a = l2 ∧ k = l1) := fun q e => by
          obtain ⟨rfl, rfl⟩ := e
          exact q HE.out
        generalize (walkR S 0 (((a : Int) * 64 + k) * 256) true).1 = fr at hwk hne
        generalize (walkR S 0 (((a : Int) * 64 + k) * 256) true).2.1 = of at hwk
        generalize (walkR S 0 (((a : Int) * 64 + k) * 256) true).2.2 = er at hwk hne
        have HWX := Lib.hid hwk
        have HNE := Lib.hid hne
        clear hwk hne hm hk
        go_wp2_with fail
        refine (rjoin_in a k (by omega) hk6 _).mono ?_
        rintro e w2 ⟨rfl, rfl⟩
        go_wp2_with fail
        refine (HWX.out _ HM.out).mono ?_
        rintro e w3 ⟨rfl, hm3⟩
        have HM3 := Lib.hid (HM.out.trans hm3)
        clear hm3 HM
        by_cases her : er = 0
        · have d1 : (er == 0) = true := beq_iff_eq.2 her
          by_cases hfr : fr = i
          · have d2 : (fr == (i : Int)) = true := beq_iff_eq.2 hfr
            go_wp2
            go_ret
            exact ⟨rfl, HM3.out⟩
          · have d2 : (fr == (i : Int)) = false := beq_eq_false_iff_ne.2 hfr
            go_wp2
            go_roundw
            case rel => exact ⟨k + 1, ⟨by omega, fun e => by have := HNE.out (fun q => hfr q.2); have := HK.out.2 e; omega⟩, by go_num, HM3.out⟩
            case measure => simp [intOf]; omega
        · have d1 : (er == 0) = false := beq_eq_false_iff_ne.2 her
          go_wp2
          go_roundw
          case rel => exact ⟨k + 1, ⟨by omega, fun e => by have := HNE.out (fun q => her q.1); have := HK.out.2 e; omega⟩, by go_num, HM3.out⟩
          case measure => simp [intOf]; omega
      · have hk6' : decide ((k : Int) < 64) = false := decide_eq_false (by omega)
        have hal : a < l2 := by have := HB.out; have := HK.out.2; omega
        clear hm hk
        go_wp2_with fail
        exact ⟨⟨a + 1, by omega, by go_num, HM.out⟩, by simp [intOf]; omega⟩

end Go.Proofs.YtlbebneblmgdcaaDoor
