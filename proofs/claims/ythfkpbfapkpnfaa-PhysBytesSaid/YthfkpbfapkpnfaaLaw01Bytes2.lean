/- tenementlaw01.PhysBytes: the walk, where the bytes do not fit. -/
import Derived.Test.YthfkpbfapkpnfaaLaw01Bytes
namespace Go.Proofs.Ythfkpbfapkpnfaa
open Go.RowKit
set_option maxRecDepth 100000

set_option maxHeartbeats 4000000 in
theorem bytes_misfit1 (off fr n : Int) (p : Option Addr) (len cap : Nat) (w : World) (q0 : off < 0) :
    Calls Try.prog 9 #[.int .i64 off, .slice p len cap, .int .i64 fr, .int .i64 n] w fun e w' => e = .returned (.bool true) ∧ Mod No w w' := by
  have d1 : decide (0 ≤ off) = false := decide_eq_false (by omega)
  have hmis : ∀ S : List Fr, ¬ InP S 0 off len := by intro S h; unfold InP at h; omega
  have HM := Lib.hid hmis; clear hmis q0
  go_enter Try.func9, Try.ntmps9
  go_wp2_with fail
  refine (new_in 2 _ (by omega) (by omega)).mono ?_
  rintro e w1 ⟨B, F, rfl, hB, hF, hm1, hP1⟩
  rw [two_new] at hP1
  go_wp2_with fail
  refine (alloc_some 0 _ hP1 (by omega) two_idx0 rfl).mono ?_
  rintro e w2 ⟨rfl, hm2, hP2⟩
  have hP2 : PhM w2 B F [a0Fr, freeFr] := hP2
  go_wp2_with fail
  refine (alloc_some 0 _ hP2 (by omega) two_idx1 rfl).mono ?_
  rintro e w3 ⟨rfl, hm3, hP3⟩
  have hP3 : PhM w3 B F [a0Fr, a0Fr] := hP3
  have hm13 : Mod No w w3 := (hm1.step hm2 (fun i hi e => by cases e; omega)).step hm3 (fun i hi e => by cases e; omega)
  go_wp2_with fail
  refine (write_out 0 off p len cap _ hP3 (HM.out _)).mono ?_
  rintro e w4 ⟨rfl, rfl⟩
  obtain ⟨f1, hf1⟩ : ∃ f1 : Fr, f1 = a0Fr := ⟨_, rfl⟩
  obtain ⟨gb, hgb⟩ : ∃ gb, gb = a0Fr.bytes := ⟨_, rfl⟩
  have hP4 : PhM w3 B F [f1, a0Fr] := by rw [hf1]; exact hP3
  have hfb : f1.bytes = gb := by rw [hf1, hgb]
  have hgl : gb.length = 256 := by rw [hgb]; exact (hP3.ok a0Fr (by simp)).1
  have hgv : ∀ j, j < 256 → gb[j]? = some 0 := by rw [hgb]; exact allZero_free
  have HG := Lib.hid hgv; clear hgv hgb
  have HF := Lib.hid hfb; clear hfb hf1
  have HGL := Lib.hid hgl; clear hgl
  go_wp2_with fail
  refine (clean_yes 1 a0Fr _ hP4 (by omega) rfl allZero_free).mono ?_
  rintro e w5 ⟨rfl, hm5⟩
  have hP5 := hP4.kept hm5 (fun q => q) (fun q => q)
  go_wp2_with fail
  refine (read_in 0 0 256 f1 _ hP5 ⟨by simp, by omega, by omega, by omega⟩ rfl).mono ?_
  rintro e w6 ⟨rfl, hm6, hlt6, hg6⟩
  rw [HF.out, show (gb.drop (0 : Int).toNat).take (256 : Int).toNat = gb from List.take_of_length_le (by rw [show (gb.drop (0 : Int).toNat) = gb from rfl, HGL.out]; exact Nat.le_refl _)] at hg6
  have hP6 := hP5.kept hm6 (fun q => q) (fun q => q)
  have hm16 : Mod No w w6 := (hm13.trans hm5).trans hm6
  have HC6 := Lib.hid hg6; clear hg6
  go_wp2_with fail
  go_loop [15] (fun v => ∃ k : Nat, k ≤ 256 ∧ v = .int .i64 k) (fun v => 256 - (intOf v).toNat)
  case atStart => exact ⟨0, Nat.zero_le _, rfl⟩
  case round =>
    obtain ⟨k, hk, rfl⟩ := hrel
    by_cases hlt : k < 256
    · have hr : w6.cell? ⟨w5.heap.size, k, none⟩ = some (.int .u8 0) := by
        rw [row_cell HC6.out, List.getElem?_map, HG.out k hlt]; rfl
      go_wp2
      go_round
      case rel => exact ⟨k + 1, by omega, by go_num⟩
      case measure => simp [intOf]; omega
    · obtain rfl : k = 256 := by omega
      by_cases hin : InP [f1, a0Fr] 0 fr n
      · obtain ⟨_, q0, q1, q2⟩ := hin
        obtain ⟨a, rfl⟩ := Int.eq_ofNat_of_zero_le q0
        obtain ⟨m, rfl⟩ := Int.eq_ofNat_of_zero_le q1
        have e1 : decide ((a : Int) < 0) = false := decide_eq_false (by omega)
        have e2 : decide ((m : Int) < 0) = false := decide_eq_false (by omega)
        have e3 : decide ((256 : Int) < a) = false := decide_eq_false (by omega)
        have e4 : decide ((256 : Int) - a < m) = false := decide_eq_false (by omega)
        go_wp2_with fail
        refine (read_in 0 a m f1 _ hP6 ⟨by simp, by omega, by omega, by omega⟩ rfl).mono ?_
        rintro e w7 ⟨rfl, hm7, hlt7, hg7⟩
        rw [HF.out] at hg7
        simp only [Int.toNat_natCast] at hg7
        have hxs : ((gb.drop a).take m).length = m := by simp [HGL.out]; omega
        obtain ⟨xs, hx⟩ : ∃ xs, xs = (gb.drop a).take m := ⟨_, rfl⟩
        rw [← hx] at hg7 hxs
        have hcx : ∀ q, (convert 49 9 (.slice (some ⟨w6.heap.size, 0, none⟩) m m)).run Try.prog (w7.drewN q) = .ok (.string (strOfNums xs)) (w7.drewN q) := fun q =>
          conv_row (w := w7.drewN q) hg7 0 m m xs (by rw [List.drop_zero, List.take_of_length_le (by omega)]) (by omega)
        have hg7' : w7.heap[w5.heap.size]? = some (.cells (gb.map (Value.int .u8)).toArray 5 (0, 0)) := hm7.blk HC6.out (fun q => q)
        obtain ⟨ad, hsl, hcv⟩ := cut_row w7 hg7' HGL.out a m (by omega) xs hx
        have hs0 : 0 ≤ (a : Int) + m := by omega
        have hs1 : ((a : Int) + m).toNat = a + m := by omega
        have hs2 : a ≤ a + m := by omega
        have hs3 : a + m - a = m := by omega
        have hw : IntKind.i64.wrap ((a : Int) + m) = (a : Int) + m := IntWalk.i64_in _ (by omega)
        have hF7 : Mod No w w7 := hm16.trans hm7
        have HX := Lib.hid hx; clear hx hg7 hg7' hxs
        go_wp2_with fail
        go_quiet (fail)
        go_wp2
        go_ret
        exact ⟨by simp, hF7.drewN _⟩
      · have hq : (fr < 0) ∨ (¬ fr < 0 ∧ n < 0) ∨ (¬ fr < 0 ∧ ¬ n < 0 ∧ 256 < fr) ∨ (¬ fr < 0 ∧ ¬ n < 0 ∧ ¬ 256 < fr ∧ 256 - fr < n) := by
          unfold InP at hin; simp at hin; omega
        have hrd := read_out 0 fr n _ hP6 hin
        have HR := Lib.hid hrd; clear hrd
        rcases hq with c1 | ⟨c1, c2⟩ | ⟨c1, c2, c3⟩ | ⟨c1, c2, c3, c4⟩
        · have e1 : decide (fr < 0) = true := decide_eq_true c1
          go_wp2_with (go_at_call 30; refine HR.out.mono ?_; rintro e w7 ⟨rfl, rfl⟩)
          go_ret
          exact ⟨rfl, hm16⟩
        · have e1 : decide (fr < 0) = false := decide_eq_false c1
          have e2 : decide (n < 0) = true := decide_eq_true c2
          go_wp2_with (go_at_call 30; refine HR.out.mono ?_; rintro e w7 ⟨rfl, rfl⟩)
          go_ret
          exact ⟨rfl, hm16⟩
        · have e1 : decide (fr < 0) = false := decide_eq_false c1
          have e2 : decide (n < 0) = false := decide_eq_false c2
          have e3 : decide (256 < fr) = true := decide_eq_true c3
          go_wp2_with (go_at_call 30; refine HR.out.mono ?_; rintro e w7 ⟨rfl, rfl⟩)
          go_ret
          exact ⟨rfl, hm16⟩
        · have e1 : decide (fr < 0) = false := decide_eq_false c1
          have e2 : decide (n < 0) = false := decide_eq_false c2
          have e3 : decide (256 < fr) = false := decide_eq_false c3
          have e4 : decide (256 - fr < n) = true := decide_eq_true c4
          go_wp2_with (go_at_call 30; refine HR.out.mono ?_; rintro e w7 ⟨rfl, rfl⟩)
          go_ret
          exact ⟨rfl, hm16⟩

set_option maxHeartbeats 4000000 in
theorem bytes_misfit2 (off fr n : Int) (p : Option Addr) (len cap : Nat) (w : World) (q0 : 256 < off) :
    Calls Try.prog 9 #[.int .i64 off, .slice p len cap, .int .i64 fr, .int .i64 n] w fun e w' => e = .returned (.bool true) ∧ Mod No w w' := by
  have d1 : decide (0 ≤ off) = true := decide_eq_true (by omega)
  have d2 : decide (off ≤ 256) = false := decide_eq_false (by omega)
  have hmis : ∀ S : List Fr, ¬ InP S 0 off len := by intro S h; unfold InP at h; omega
  have HM := Lib.hid hmis; clear hmis q0
  go_enter Try.func9, Try.ntmps9
  go_wp2_with fail
  refine (new_in 2 _ (by omega) (by omega)).mono ?_
  rintro e w1 ⟨B, F, rfl, hB, hF, hm1, hP1⟩
  rw [two_new] at hP1
  go_wp2_with fail
  refine (alloc_some 0 _ hP1 (by omega) two_idx0 rfl).mono ?_
  rintro e w2 ⟨rfl, hm2, hP2⟩
  have hP2 : PhM w2 B F [a0Fr, freeFr] := hP2
  go_wp2_with fail
  refine (alloc_some 0 _ hP2 (by omega) two_idx1 rfl).mono ?_
  rintro e w3 ⟨rfl, hm3, hP3⟩
  have hP3 : PhM w3 B F [a0Fr, a0Fr] := hP3
  have hm13 : Mod No w w3 := (hm1.step hm2 (fun i hi e => by cases e; omega)).step hm3 (fun i hi e => by cases e; omega)
  go_wp2_with fail
  refine (write_out 0 off p len cap _ hP3 (HM.out _)).mono ?_
  rintro e w4 ⟨rfl, rfl⟩
  obtain ⟨f1, hf1⟩ : ∃ f1 : Fr, f1 = a0Fr := ⟨_, rfl⟩
  obtain ⟨gb, hgb⟩ : ∃ gb, gb = a0Fr.bytes := ⟨_, rfl⟩
  have hP4 : PhM w3 B F [f1, a0Fr] := by rw [hf1]; exact hP3
  have hfb : f1.bytes = gb := by rw [hf1, hgb]
  have hgl : gb.length = 256 := by rw [hgb]; exact (hP3.ok a0Fr (by simp)).1
  have hgv : ∀ j, j < 256 → gb[j]? = some 0 := by rw [hgb]; exact allZero_free
  have HG := Lib.hid hgv; clear hgv hgb
  have HF := Lib.hid hfb; clear hfb hf1
  have HGL := Lib.hid hgl; clear hgl
  go_wp2_with fail
  refine (clean_yes 1 a0Fr _ hP4 (by omega) rfl allZero_free).mono ?_
  rintro e w5 ⟨rfl, hm5⟩
  have hP5 := hP4.kept hm5 (fun q => q) (fun q => q)
  go_wp2_with fail
  refine (read_in 0 0 256 f1 _ hP5 ⟨by simp, by omega, by omega, by omega⟩ rfl).mono ?_
  rintro e w6 ⟨rfl, hm6, hlt6, hg6⟩
  rw [HF.out, show (gb.drop (0 : Int).toNat).take (256 : Int).toNat = gb from List.take_of_length_le (by rw [show (gb.drop (0 : Int).toNat) = gb from rfl, HGL.out]; exact Nat.le_refl _)] at hg6
  have hP6 := hP5.kept hm6 (fun q => q) (fun q => q)
  have hm16 : Mod No w w6 := (hm13.trans hm5).trans hm6
  have HC6 := Lib.hid hg6; clear hg6
  go_wp2_with fail
  go_loop [15] (fun v => ∃ k : Nat, k ≤ 256 ∧ v = .int .i64 k) (fun v => 256 - (intOf v).toNat)
  case atStart => exact ⟨0, Nat.zero_le _, rfl⟩
  case round =>
    obtain ⟨k, hk, rfl⟩ := hrel
    by_cases hlt : k < 256
    · have hr : w6.cell? ⟨w5.heap.size, k, none⟩ = some (.int .u8 0) := by
        rw [row_cell HC6.out, List.getElem?_map, HG.out k hlt]; rfl
      go_wp2
      go_round
      case rel => exact ⟨k + 1, by omega, by go_num⟩
      case measure => simp [intOf]; omega
    · obtain rfl : k = 256 := by omega
      by_cases hin : InP [f1, a0Fr] 0 fr n
      · obtain ⟨_, q0, q1, q2⟩ := hin
        obtain ⟨a, rfl⟩ := Int.eq_ofNat_of_zero_le q0
        obtain ⟨m, rfl⟩ := Int.eq_ofNat_of_zero_le q1
        have e1 : decide ((a : Int) < 0) = false := decide_eq_false (by omega)
        have e2 : decide ((m : Int) < 0) = false := decide_eq_false (by omega)
        have e3 : decide ((256 : Int) < a) = false := decide_eq_false (by omega)
        have e4 : decide ((256 : Int) - a < m) = false := decide_eq_false (by omega)
        go_wp2_with fail
        refine (read_in 0 a m f1 _ hP6 ⟨by simp, by omega, by omega, by omega⟩ rfl).mono ?_
        rintro e w7 ⟨rfl, hm7, hlt7, hg7⟩
        rw [HF.out] at hg7
        simp only [Int.toNat_natCast] at hg7
        have hxs : ((gb.drop a).take m).length = m := by simp [HGL.out]; omega
        obtain ⟨xs, hx⟩ : ∃ xs, xs = (gb.drop a).take m := ⟨_, rfl⟩
        rw [← hx] at hg7 hxs
        have hcx : ∀ q, (convert 49 9 (.slice (some ⟨w6.heap.size, 0, none⟩) m m)).run Try.prog (w7.drewN q) = .ok (.string (strOfNums xs)) (w7.drewN q) := fun q =>
          conv_row (w := w7.drewN q) hg7 0 m m xs (by rw [List.drop_zero, List.take_of_length_le (by omega)]) (by omega)
        have hg7' : w7.heap[w5.heap.size]? = some (.cells (gb.map (Value.int .u8)).toArray 5 (0, 0)) := hm7.blk HC6.out (fun q => q)
        obtain ⟨ad, hsl, hcv⟩ := cut_row w7 hg7' HGL.out a m (by omega) xs hx
        have hs0 : 0 ≤ (a : Int) + m := by omega
        have hs1 : ((a : Int) + m).toNat = a + m := by omega
        have hs2 : a ≤ a + m := by omega
        have hs3 : a + m - a = m := by omega
        have hw : IntKind.i64.wrap ((a : Int) + m) = (a : Int) + m := IntWalk.i64_in _ (by omega)
        have hF7 : Mod No w w7 := hm16.trans hm7
        have HX := Lib.hid hx; clear hx hg7 hg7' hxs
        go_wp2_with fail
        go_quiet (fail)
        go_wp2
        go_ret
        exact ⟨by simp, hF7.drewN _⟩
      · have hq : (fr < 0) ∨ (¬ fr < 0 ∧ n < 0) ∨ (¬ fr < 0 ∧ ¬ n < 0 ∧ 256 < fr) ∨ (¬ fr < 0 ∧ ¬ n < 0 ∧ ¬ 256 < fr ∧ 256 - fr < n) := by
          unfold InP at hin; simp at hin; omega
        have hrd := read_out 0 fr n _ hP6 hin
        have HR := Lib.hid hrd; clear hrd
        rcases hq with c1 | ⟨c1, c2⟩ | ⟨c1, c2, c3⟩ | ⟨c1, c2, c3, c4⟩
        · have e1 : decide (fr < 0) = true := decide_eq_true c1
          go_wp2_with (go_at_call 30; refine HR.out.mono ?_; rintro e w7 ⟨rfl, rfl⟩)
          go_ret
          exact ⟨rfl, hm16⟩
        · have e1 : decide (fr < 0) = false := decide_eq_false c1
          have e2 : decide (n < 0) = true := decide_eq_true c2
          go_wp2_with (go_at_call 30; refine HR.out.mono ?_; rintro e w7 ⟨rfl, rfl⟩)
          go_ret
          exact ⟨rfl, hm16⟩
        · have e1 : decide (fr < 0) = false := decide_eq_false c1
          have e2 : decide (n < 0) = false := decide_eq_false c2
          have e3 : decide (256 < fr) = true := decide_eq_true c3
          go_wp2_with (go_at_call 30; refine HR.out.mono ?_; rintro e w7 ⟨rfl, rfl⟩)
          go_ret
          exact ⟨rfl, hm16⟩
        · have e1 : decide (fr < 0) = false := decide_eq_false c1
          have e2 : decide (n < 0) = false := decide_eq_false c2
          have e3 : decide (256 < fr) = false := decide_eq_false c3
          have e4 : decide (256 - fr < n) = true := decide_eq_true c4
          go_wp2_with (go_at_call 30; refine HR.out.mono ?_; rintro e w7 ⟨rfl, rfl⟩)
          go_ret
          exact ⟨rfl, hm16⟩

set_option maxHeartbeats 4000000 in
theorem bytes_misfit3 (off fr n : Int) (p : Option Addr) (len cap : Nat) (w : World) (q0 : 0 ≤ off ∧ off ≤ 256 ∧ 256 - off < len) :
    Calls Try.prog 9 #[.int .i64 off, .slice p len cap, .int .i64 fr, .int .i64 n] w fun e w' => e = .returned (.bool true) ∧ Mod No w w' := by
  have d1 : decide (0 ≤ off) = true := decide_eq_true (by omega)
  have d2 : decide (off ≤ 256) = true := decide_eq_true (by omega)
  have d3 : decide ((len : Int) ≤ 256 - off) = false := decide_eq_false (by omega)
  have hmis : ∀ S : List Fr, ¬ InP S 0 off len := by intro S h; unfold InP at h; omega
  have HM := Lib.hid hmis
  have hq0 := q0.1
  have hq1 := q0.2.1
  clear hmis q0
  go_enter Try.func9, Try.ntmps9
  go_wp2_with fail
  refine (new_in 2 _ (by omega) (by omega)).mono ?_
  rintro e w1 ⟨B, F, rfl, hB, hF, hm1, hP1⟩
  rw [two_new] at hP1
  go_wp2_with fail
  refine (alloc_some 0 _ hP1 (by omega) two_idx0 rfl).mono ?_
  rintro e w2 ⟨rfl, hm2, hP2⟩
  have hP2 : PhM w2 B F [a0Fr, freeFr] := hP2
  go_wp2_with fail
  refine (alloc_some 0 _ hP2 (by omega) two_idx1 rfl).mono ?_
  rintro e w3 ⟨rfl, hm3, hP3⟩
  have hP3 : PhM w3 B F [a0Fr, a0Fr] := hP3
  have hm13 : Mod No w w3 := (hm1.step hm2 (fun i hi e => by cases e; omega)).step hm3 (fun i hi e => by cases e; omega)
  go_wp2_with fail
  refine (write_out 0 off p len cap _ hP3 (HM.out _)).mono ?_
  rintro e w4 ⟨rfl, rfl⟩
  obtain ⟨f1, hf1⟩ : ∃ f1 : Fr, f1 = a0Fr := ⟨_, rfl⟩
  obtain ⟨gb, hgb⟩ : ∃ gb, gb = a0Fr.bytes := ⟨_, rfl⟩
  have hP4 : PhM w3 B F [f1, a0Fr] := by rw [hf1]; exact hP3
  have hfb : f1.bytes = gb := by rw [hf1, hgb]
  have hgl : gb.length = 256 := by rw [hgb]; exact (hP3.ok a0Fr (by simp)).1
  have hgv : ∀ j, j < 256 → gb[j]? = some 0 := by rw [hgb]; exact allZero_free
  have HG := Lib.hid hgv; clear hgv hgb
  have HF := Lib.hid hfb; clear hfb hf1
  have HGL := Lib.hid hgl; clear hgl
  go_wp2_with fail
  refine (clean_yes 1 a0Fr _ hP4 (by omega) rfl allZero_free).mono ?_
  rintro e w5 ⟨rfl, hm5⟩
  have hP5 := hP4.kept hm5 (fun q => q) (fun q => q)
  go_wp2_with fail
  refine (read_in 0 0 256 f1 _ hP5 ⟨by simp, by omega, by omega, by omega⟩ rfl).mono ?_
  rintro e w6 ⟨rfl, hm6, hlt6, hg6⟩
  rw [HF.out, show (gb.drop (0 : Int).toNat).take (256 : Int).toNat = gb from List.take_of_length_le (by rw [show (gb.drop (0 : Int).toNat) = gb from rfl, HGL.out]; exact Nat.le_refl _)] at hg6
  have hP6 := hP5.kept hm6 (fun q => q) (fun q => q)
  have hm16 : Mod No w w6 := (hm13.trans hm5).trans hm6
  have HC6 := Lib.hid hg6; clear hg6
  go_wp2_with fail
  go_loop [15] (fun v => ∃ k : Nat, k ≤ 256 ∧ v = .int .i64 k) (fun v => 256 - (intOf v).toNat)
  case atStart => exact ⟨0, Nat.zero_le _, rfl⟩
  case round =>
    obtain ⟨k, hk, rfl⟩ := hrel
    by_cases hlt : k < 256
    · have hr : w6.cell? ⟨w5.heap.size, k, none⟩ = some (.int .u8 0) := by
        rw [row_cell HC6.out, List.getElem?_map, HG.out k hlt]; rfl
      go_wp2
      go_round
      case rel => exact ⟨k + 1, by omega, by go_num⟩
      case measure => simp [intOf]; omega
    · obtain rfl : k = 256 := by omega
      by_cases hin : InP [f1, a0Fr] 0 fr n
      · obtain ⟨_, q0, q1, q2⟩ := hin
        obtain ⟨a, rfl⟩ := Int.eq_ofNat_of_zero_le q0
        obtain ⟨m, rfl⟩ := Int.eq_ofNat_of_zero_le q1
        have e1 : decide ((a : Int) < 0) = false := decide_eq_false (by omega)
        have e2 : decide ((m : Int) < 0) = false := decide_eq_false (by omega)
        have e3 : decide ((256 : Int) < a) = false := decide_eq_false (by omega)
        have e4 : decide ((256 : Int) - a < m) = false := decide_eq_false (by omega)
        go_wp2_with fail
        refine (read_in 0 a m f1 _ hP6 ⟨by simp, by omega, by omega, by omega⟩ rfl).mono ?_
        rintro e w7 ⟨rfl, hm7, hlt7, hg7⟩
        rw [HF.out] at hg7
        simp only [Int.toNat_natCast] at hg7
        have hxs : ((gb.drop a).take m).length = m := by simp [HGL.out]; omega
        obtain ⟨xs, hx⟩ : ∃ xs, xs = (gb.drop a).take m := ⟨_, rfl⟩
        rw [← hx] at hg7 hxs
        have hcx : ∀ q, (convert 49 9 (.slice (some ⟨w6.heap.size, 0, none⟩) m m)).run Try.prog (w7.drewN q) = .ok (.string (strOfNums xs)) (w7.drewN q) := fun q =>
          conv_row (w := w7.drewN q) hg7 0 m m xs (by rw [List.drop_zero, List.take_of_length_le (by omega)]) (by omega)
        have hg7' : w7.heap[w5.heap.size]? = some (.cells (gb.map (Value.int .u8)).toArray 5 (0, 0)) := hm7.blk HC6.out (fun q => q)
        obtain ⟨ad, hsl, hcv⟩ := cut_row w7 hg7' HGL.out a m (by omega) xs hx
        have hs0 : 0 ≤ (a : Int) + m := by omega
        have hs1 : ((a : Int) + m).toNat = a + m := by omega
        have hs2 : a ≤ a + m := by omega
        have hs3 : a + m - a = m := by omega
        have hw : IntKind.i64.wrap ((a : Int) + m) = (a : Int) + m := IntWalk.i64_in _ (by omega)
        have hF7 : Mod No w w7 := hm16.trans hm7
        have HX := Lib.hid hx; clear hx hg7 hg7' hxs
        go_wp2_with fail
        go_quiet (fail)
        go_wp2
        go_ret
        exact ⟨by simp, hF7.drewN _⟩
      · have hq : (fr < 0) ∨ (¬ fr < 0 ∧ n < 0) ∨ (¬ fr < 0 ∧ ¬ n < 0 ∧ 256 < fr) ∨ (¬ fr < 0 ∧ ¬ n < 0 ∧ ¬ 256 < fr ∧ 256 - fr < n) := by
          unfold InP at hin; simp at hin; omega
        have hrd := read_out 0 fr n _ hP6 hin
        have HR := Lib.hid hrd; clear hrd
        rcases hq with c1 | ⟨c1, c2⟩ | ⟨c1, c2, c3⟩ | ⟨c1, c2, c3, c4⟩
        · have e1 : decide (fr < 0) = true := decide_eq_true c1
          go_wp2_with (go_at_call 30; refine HR.out.mono ?_; rintro e w7 ⟨rfl, rfl⟩)
          go_ret
          exact ⟨rfl, hm16⟩
        · have e1 : decide (fr < 0) = false := decide_eq_false c1
          have e2 : decide (n < 0) = true := decide_eq_true c2
          go_wp2_with (go_at_call 30; refine HR.out.mono ?_; rintro e w7 ⟨rfl, rfl⟩)
          go_ret
          exact ⟨rfl, hm16⟩
        · have e1 : decide (fr < 0) = false := decide_eq_false c1
          have e2 : decide (n < 0) = false := decide_eq_false c2
          have e3 : decide (256 < fr) = true := decide_eq_true c3
          go_wp2_with (go_at_call 30; refine HR.out.mono ?_; rintro e w7 ⟨rfl, rfl⟩)
          go_ret
          exact ⟨rfl, hm16⟩
        · have e1 : decide (fr < 0) = false := decide_eq_false c1
          have e2 : decide (n < 0) = false := decide_eq_false c2
          have e3 : decide (256 < fr) = false := decide_eq_false c3
          have e4 : decide (256 - fr < n) = true := decide_eq_true c4
          go_wp2_with (go_at_call 30; refine HR.out.mono ?_; rintro e w7 ⟨rfl, rfl⟩)
          go_ret
          exact ⟨rfl, hm16⟩

theorem bytes_any (off fr n : Int) (p : Option Addr) (len cap : Nat) (bs : List Int) (w : World) (hsrc : Src w p bs) (hl : bs.length = len)
    (hp : 0 < len → ∃ b o, p = some ⟨b, o, none⟩ ∧ ∀ j v, bs[j]? = some v → w.cell? ⟨b, o + j, none⟩ = some (.int .u8 v)) :
    Calls Try.prog 9 #[.int .i64 off, .slice p len cap, .int .i64 fr, .int .i64 n] w fun e w' => e = .returned (.bool true) ∧ Mod No w w' := by
  by_cases h1 : off < 0
  · exact bytes_misfit1 off fr n p len cap w h1
  by_cases h2 : 256 < off
  · exact bytes_misfit2 off fr n p len cap w h2
  by_cases h3 : 256 - off < len
  · exact bytes_misfit3 off fr n p len cap w ⟨by omega, by omega, h3⟩
  · exact bytes_fits off fr n p len cap bs w hsrc hl hp (by omega) (by omega)

end Go.Proofs.Ythfkpbfapkpnfaa
