/- tenementlaw01.PhysBytes: the walk. -/
import Derived.Test.YthfkpbfapkpnfaaLaw01Clean
import Derived.Deep.QuietTactic
import Derived.BigQuiet
import Derived.IntWalk
namespace Go.Proofs.Ythfkpbfapkpnfaa
open Go.RowKit
set_option maxRecDepth 100000

def a0Fr : Fr := { freeFr with owner := 0 }
def twoA : List Fr := [a0Fr, a0Fr]
theorem two_new : List.replicate 2 freeFr = [freeFr, freeFr] := rfl
theorem two_idx0 : idxs [freeFr, freeFr] (-1) [freeFr, freeFr].length = ((0 : Nat) : Int) :: [1] := rfl
theorem two_idx1 : idxs [a0Fr, freeFr] (-1) [a0Fr, freeFr].length = ((1 : Nat) : Int) :: [] := rfl

theorem splice_get {l bs : List Int} {o : Nat} (hl : l.length = 256) (ho : o + bs.length ≤ 256) (j : Nat) (hj : j < 256) :
    (splice l o bs)[j]? = if o ≤ j ∧ j < o + bs.length then bs[j - o]? else l[j]? := by
  unfold splice
  by_cases h1 : j < o
  · rw [List.getElem?_append_left (by simp; omega), List.getElem?_take_of_lt h1, if_neg (by omega)]
  · rw [List.getElem?_append_right (by simp; omega)]
    have e : (l.take o).length = o := by simp; omega
    rw [e]
    by_cases h2 : j < o + bs.length
    · rw [List.getElem?_append_left (by omega), if_pos ⟨by omega, h2⟩]
    · rw [List.getElem?_append_right (by omega), List.getElem?_drop, if_neg (by omega)]
      congr 1; omega

/-- 'all[a:a+m]' of a row of 256 bytes, as a text. -/
theorem cut_row {g : Nat} {bs : List Int} {t : TypeId} (w : World) (hg : w.heap[g]? = some (.cells (bs.map (Value.int .u8)).toArray t (0, 0))) (hl : bs.length = 256) (a m : Nat) (ham : a + m ≤ 256)
    (xs : List Int) (hx : xs = (bs.drop a).take m) :
    ∃ ad, (if 256 = a then (some ⟨g, 0, none⟩ : Option Addr) else some ⟨g, a, none⟩) = some ad ∧
      ∀ q, (convert 49 9 (.slice (some ad) m (256 - a))).run Try.prog (w.drewN q) = .ok (.string (strOfNums xs)) (w.drewN q) := by
  by_cases h : 256 = a
  · refine ⟨⟨g, 0, none⟩, if_pos h, fun q => ?_⟩
    obtain rfl : m = 0 := by omega
    exact conv_row (w := w.drewN q) hg 0 0 _ xs (by rw [hx]; simp) (by omega)
  · exact ⟨⟨g, a, none⟩, if_neg h, fun q => conv_row (w := w.drewN q) hg a m _ xs hx (by omega)⟩

set_option maxHeartbeats 4000000 in
theorem bytes_fits (off fr n : Int) (p : Option Addr) (len cap : Nat) (bs : List Int) (w : World) (hsrc : Src w p bs) (hl : bs.length = len)
    (hp : 0 < len → ∃ b o, p = some ⟨b, o, none⟩ ∧ ∀ j v, bs[j]? = some v → w.cell? ⟨b, o + j, none⟩ = some (.int .u8 v))
    (h0 : 0 ≤ off) (h1 : off + len ≤ 256) :
    Calls Try.prog 9 #[.int .i64 off, .slice p len cap, .int .i64 fr, .int .i64 n] w fun e w' => e = .returned (.bool true) ∧ Mod No w w' := by
  obtain ⟨o1, rfl⟩ := Int.eq_ofNat_of_zero_le h0
  have d1 : decide ((0 : Int) ≤ o1) = true := decide_eq_true h0
  have d2 : decide ((o1 : Int) ≤ 256) = true := decide_eq_true (by omega)
  have d3 : decide ((len : Int) ≤ 256 - o1) = true := decide_eq_true (by omega)
  have HS := Lib.hid hsrc; clear hsrc
  have HP := Lib.hid hp; clear hp
  have HL := Lib.hid hl; clear hl
  go_enter Try.func9, Try.ntmps9
  go_wp2_with fail
  refine (new_in 2 _ (by omega) (by omega)).mono ?_
  rintro e w1 ⟨B, F, rfl, hB, hF, hm1, hP1⟩
  rw [two_new] at hP1
  go_wp2_with fail
  refine (alloc_some 0 _ hP1 (by omega) two_idx0 rfl).mono ?_
  rintro e w2 ⟨rfl, hm2, hP2⟩
  have hP2 : PhM w2 B F [a0Fr, freeFr] := hP2
  go_wp2_with fail
  refine (alloc_some 0 _ hP2 (by omega) two_idx1 rfl).mono ?_
  rintro e w3 ⟨rfl, hm3, hP3⟩
  have hP3 : PhM w3 B F [a0Fr, a0Fr] := hP3
  have hm13 : Mod No w w3 := (hm1.step hm2 (fun i hi e => by cases e; omega)).step hm3 (fun i hi e => by cases e; omega)
  go_wp2_with fail
  refine (write_in 0 o1 p len cap bs a0Fr _ hP3 HL.out ⟨by simp, by omega, by omega, by omega⟩ rfl (by decide) (HS.out.kept hm13 (fun _ _ _ q => q))).mono ?_
  rintro e w4 ⟨rfl, hm4, hP4⟩
  obtain ⟨gb, hgb⟩ : ∃ gb, gb = splice a0Fr.bytes (o1 : Int).toNat bs := ⟨_, rfl⟩
  rw [← hgb] at hP4
  obtain ⟨f1, hf1⟩ : ∃ f1 : Fr, f1 = { a0Fr with bytes := gb } := ⟨_, rfl⟩
  have hP4 : PhM w4 B F [f1, a0Fr] := by rw [hf1]; exact hP4
  have hfb : f1.bytes = gb := by rw [hf1]
  have hgl : gb.length = 256 := by have := (hP4.ok f1 (by simp)).1; rw [hfb] at this; exact this
  have hgv : ∀ j, j < 256 → gb[j]? = if o1 ≤ j ∧ j < o1 + len then bs[j - o1]? else some 0 := by
    intro j hj
    rw [hgb, Int.toNat_natCast, splice_get (by simp [a0Fr, freeFr]) (by rw [HL.out]; omega) j hj, HL.out]
    split
    · rfl
    · exact allZero_free j hj
  have HG := Lib.hid hgv; clear hgv hgb
  have HF := Lib.hid hfb; clear hfb hf1
  have HGL := Lib.hid hgl; clear hgl
  go_wp2_with fail
  refine (clean_yes 1 a0Fr _ hP4 (by omega) rfl allZero_free).mono ?_
  rintro e w5 ⟨rfl, hm5⟩
  have hP5 := hP4.kept hm5 (fun q => q) (fun q => q)
  go_wp2_with fail
  refine (read_in 0 0 256 f1 _ hP5 ⟨by simp, by omega, by omega, by omega⟩ rfl).mono ?_
  rintro e w6 ⟨rfl, hm6, hlt6, hg6⟩
  rw [HF.out, show (gb.drop (0 : Int).toNat).take (256 : Int).toNat = gb from List.take_of_length_le (by rw [show (gb.drop (0 : Int).toNat) = gb from rfl, HGL.out]; exact Nat.le_refl _)] at hg6
  have hP6 := hP5.kept hm6 (fun q => q) (fun q => q)
  have hm16 : Mod No w w6 := ((hm13.step hm4 (fun i hi e => by cases e; omega)).trans hm5).trans hm6
  have HC6 := Lib.hid hg6; clear hg6
  go_wp2_with fail
  go_loop [15] (fun v => ∃ k : Nat, k ≤ 256 ∧ v = .int .i64 k) (fun v => 256 - (intOf v).toNat)
  case atStart => exact ⟨0, Nat.zero_le _, rfl⟩
  case round =>
    obtain ⟨k, hk, rfl⟩ := hrel
    by_cases hlt : k < 256
    · have hv := HG.out k hlt
      have hcR : ∀ v, gb[k]? = some v → w6.cell? ⟨w5.heap.size, k, none⟩ = some (.int .u8 v) := by
        intro v hv
        rw [row_cell HC6.out, List.getElem?_map, hv]; rfl
      by_cases c1 : o1 ≤ k
      · have g1 : decide (o1 ≤ k) = true := decide_eq_true c1
        by_cases c2 : k < o1 + len
        · have g2 : decide ((k : Int) - o1 < len) = true := decide_eq_true (by omega)
          rw [if_pos ⟨c1, c2⟩] at hv
          obtain ⟨v, hbv⟩ : ∃ v, bs[k - o1]? = some v := ⟨bs[k - o1]'(by rw [HL.out]; omega), by simp⟩
          rw [hbv] at hv
          have hr := hcR v hv
          obtain ⟨b, o, rfl, hb⟩ := HP.out (by omega)
          have hb2 := hb _ _ hbv
          have hcb : w6.cell? ⟨b, o + (k - o1), none⟩ = some (.int .u8 v) := by
            have hbl := World.block_lt_of_cell? w _ hb2
            exact (World.cell?_of_block (w := w) (hm16.block b hbl (fun q => q))).trans hb2
          clear hb hb2 hcR hv hbv
          go_wp2
          go_round
          case rel => exact ⟨k + 1, by omega, by go_num⟩
          case measure => simp [intOf]; omega
        · have g2 : decide ((k : Int) - o1 < len) = false := decide_eq_false (by omega)
          rw [if_neg (by omega)] at hv
          have hr := hcR 0 hv
          clear hcR hv
          go_wp2
          go_round
          case rel => exact ⟨k + 1, by omega, by go_num⟩
          case measure => simp [intOf]; omega
      · have g1 : decide (o1 ≤ k) = false := decide_eq_false c1
        rw [if_neg (by omega)] at hv
        have hr := hcR 0 hv
        clear hcR hv
        go_wp2
        go_round
        case rel => exact ⟨k + 1, by omega, by go_num⟩
        case measure => simp [intOf]; omega
    · obtain rfl : k = 256 := by omega
      by_cases hin : InP [f1, a0Fr] 0 fr n
      · obtain ⟨_, q0, q1, q2⟩ := hin
        obtain ⟨a, rfl⟩ := Int.eq_ofNat_of_zero_le q0
        obtain ⟨m, rfl⟩ := Int.eq_ofNat_of_zero_le q1
        have e1 : decide ((a : Int) < 0) = false := decide_eq_false (by omega)
        have e2 : decide ((m : Int) < 0) = false := decide_eq_false (by omega)
        have e3 : decide ((256 : Int) < a) = false := decide_eq_false (by omega)
        have e4 : decide ((256 : Int) - a < m) = false := decide_eq_false (by omega)
        go_wp2_with fail
        refine (read_in 0 a m f1 _ hP6 ⟨by simp, by omega, by omega, by omega⟩ rfl).mono ?_
        rintro e w7 ⟨rfl, hm7, hlt7, hg7⟩
        rw [HF.out] at hg7
        simp only [Int.toNat_natCast] at hg7
        have hxs : ((gb.drop a).take m).length = m := by simp [HGL.out]; omega
        obtain ⟨xs, hx⟩ : ∃ xs, xs = (gb.drop a).take m := ⟨_, rfl⟩
        rw [← hx] at hg7 hxs
        have hcx : ∀ q, (convert 49 9 (.slice (some ⟨w6.heap.size, 0, none⟩) m m)).run Try.prog (w7.drewN q) = .ok (.string (strOfNums xs)) (w7.drewN q) := fun q =>
          conv_row (w := w7.drewN q) hg7 0 m m xs (by rw [List.drop_zero, List.take_of_length_le (by omega)]) (by omega)
        have hg7' : w7.heap[w5.heap.size]? = some (.cells (gb.map (Value.int .u8)).toArray 5 (0, 0)) := hm7.blk HC6.out (fun q => q)
        obtain ⟨ad, hsl, hcv⟩ := cut_row w7 hg7' HGL.out a m (by omega) xs hx
        have hs0 : 0 ≤ (a : Int) + m := by omega
        have hs1 : ((a : Int) + m).toNat = a + m := by omega
        have hs2 : a ≤ a + m := by omega
        have hs3 : a + m - a = m := by omega
        have hw : IntKind.i64.wrap ((a : Int) + m) = (a : Int) + m := IntWalk.i64_in _ (by omega)
        have hF7 : Mod No w w7 := hm16.trans hm7
        have HX := Lib.hid hx; clear hx hg7 hg7' hxs
        go_wp2_with fail
        go_quiet (fail)
        go_wp2
        go_ret
        exact ⟨by simp, hF7.drewN _⟩
      · have hq : (fr < 0) ∨ (¬ fr < 0 ∧ n < 0) ∨ (¬ fr < 0 ∧ ¬ n < 0 ∧ 256 < fr) ∨ (¬ fr < 0 ∧ ¬ n < 0 ∧ ¬ 256 < fr ∧ 256 - fr < n) := by
          unfold InP at hin; simp at hin; omega
        have hrd := read_out 0 fr n _ hP6 hin
        have HR := Lib.hid hrd; clear hrd
        rcases hq with c1 | ⟨c1, c2⟩ | ⟨c1, c2, c3⟩ | ⟨c1, c2, c3, c4⟩
        · have e1 : decide (fr < 0) = true := decide_eq_true c1
          go_wp2_with (go_at_call 30; refine HR.out.mono ?_; rintro e w7 ⟨rfl, rfl⟩)
          go_ret
          exact ⟨rfl, hm16⟩
        · have e1 : decide (fr < 0) = false := decide_eq_false c1
          have e2 : decide (n < 0) = true := decide_eq_true c2
          go_wp2_with (go_at_call 30; refine HR.out.mono ?_; rintro e w7 ⟨rfl, rfl⟩)
          go_ret
          exact ⟨rfl, hm16⟩
        · have e1 : decide (fr < 0) = false := decide_eq_false c1
          have e2 : decide (n < 0) = false := decide_eq_false c2
          have e3 : decide (256 < fr) = true := decide_eq_true c3
          go_wp2_with (go_at_call 30; refine HR.out.mono ?_; rintro e w7 ⟨rfl, rfl⟩)
          go_ret
          exact ⟨rfl, hm16⟩
        · have e1 : decide (fr < 0) = false := decide_eq_false c1
          have e2 : decide (n < 0) = false := decide_eq_false c2
          have e3 : decide (256 < fr) = false := decide_eq_false c3
          have e4 : decide (256 - fr < n) = true := decide_eq_true c4
          go_wp2_with (go_at_call 30; refine HR.out.mono ?_; rintro e w7 ⟨rfl, rfl⟩)
          go_ret
          exact ⟨rfl, hm16⟩

end Go.Proofs.Ythfkpbfapkpnfaa
