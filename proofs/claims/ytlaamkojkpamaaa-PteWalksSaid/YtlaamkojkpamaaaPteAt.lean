/- A table's entry's bits: the code's and the document's. -/
import Derived.Test.YtlaamkojkpamaaaPteNum
import Derived.Test.YtlaamkojkpamaaaBoth
import Derived.Deep.QuietTactic
import Derived.BigQuiet
import Derived.LoopN
namespace Go.Proofs.Ytlaamkojkpamaaa
open Go.RowKit
set_option maxRecDepth 100000

theorem atR_in {S : List Fr} {t i : Int} {f : Fr} (hi : 0 ≤ i ∧ i < 64) (ht : 0 ≤ t ∧ t < S.length) (hf : S[t.toNat]? = some f) : atR S t i = (word4 ((f.bytes.drop (4 * i).toNat).take 4), 0) := by
  unfold atR; rw [if_pos ⟨hi, ht⟩, hf]
theorem atR_out {S : List Fr} {t i : Int} (h : ¬ ((0 ≤ i ∧ i < 64) ∧ 0 ≤ t ∧ t < S.length)) : atR S t i = (0, 1) := by
  unfold atR; rw [if_neg h]

theorem bytes4 {f : Fr} (hf : f.ok) {k : Nat} (hk : k + 4 ≤ 256) : ∃ b0 b1 b2 b3 : Int, (f.bytes.drop k).take 4 = [b0, b1, b2, b3] ∧ (0 ≤ b0 ∧ b0 ≤ 255) ∧ (0 ≤ b1 ∧ b1 ≤ 255) ∧ (0 ≤ b2 ∧ b2 ≤ 255) ∧ (0 ≤ b3 ∧ b3 ≤ 255) := by
  have hl : ((f.bytes.drop k).take 4).length = 4 := by rw [List.length_take, List.length_drop, hf.1]; omega
  have hm : ∀ x ∈ (f.bytes.drop k).take 4, 0 ≤ x ∧ x ≤ 255 := fun x hx => hf.2 x (List.mem_of_mem_drop (List.mem_of_mem_take hx))
  match h : (f.bytes.drop k).take 4, hl with
  | [b0, b1, b2, b3], _ =>
    rw [h] at hm
    exact ⟨b0, b1, b2, b3, rfl, hm b0 (by simp), hm b1 (by simp), hm b2 (by simp), hm b3 (by simp)⟩

theorem word4_range {b0 b1 b2 b3 : Int} (h0 : 0 ≤ b0 ∧ b0 ≤ 255) (h1 : 0 ≤ b1 ∧ b1 ≤ 255) (h2 : 0 ≤ b2 ∧ b2 ≤ 255) (h3 : 0 ≤ b3 ∧ b3 ≤ 255) : 0 ≤ word4 [b0, b1, b2, b3] ∧ word4 [b0, b1, b2, b3] ≤ 4294967295 := by
  simp only [word4, List.getD_cons_zero, List.getD_cons_succ]; omega

theorem or_low (x y : Int) (i : Nat) (h0 : 0 ≤ x) (h1 : x ≤ 4294967295) (h2 : 0 ≤ y) (h3 : y ≤ 4294967295) (hx : y.toNat % 2 ^ i = 0) (hy : x.toNat < 2 ^ i) : Go.bits .or .u32 x y = x + y := by
  rw [Go.u32_or x y h0 (by omega) h2 (by omega), Nat.or_comm, Go.nat_join i y.toNat x.toNat hx hy]
  omega

theorem or4 {b0 b1 b2 b3 : Int} (h0 : 0 ≤ b0 ∧ b0 ≤ 255) (h1 : 0 ≤ b1 ∧ b1 ≤ 255) (h2 : 0 ≤ b2 ∧ b2 ≤ 255) (h3 : 0 ≤ b3 ∧ b3 ≤ 255) :
    Go.bits .or .u32 (Go.bits .or .u32 (Go.bits .or .u32 b0 (b1 * 256)) (b2 * 65536)) (b3 * 16777216) = word4 [b0, b1, b2, b3] := by
  rw [or_low b0 (b1 * 256) 8 h0.1 (by omega) (by omega) (by omega) (by omega) (by omega), or_low (b0 + b1 * 256) (b2 * 65536) 16 (by omega) (by omega) (by omega) (by omega) (by omega) (by omega),
    or_low (b0 + b1 * 256 + b2 * 65536) (b3 * 16777216) 24 (by omega) (by omega) (by omega) (by omega) (by omega) (by omega)]
  simp only [word4, List.getD_cons_zero, List.getD_cons_succ]; omega

set_option maxHeartbeats 1600000 in
theorem at_any {B F : Nat} {S : List Fr} (t i : Int) (w : World) (h : PhM w B F S) :
    Calls Try.prog 24 #[.pointer (some ⟨B, 0, none⟩), .int .i64 t, .int .i64 i] w fun e w' => e = .returned (.tuple #[.int .u32 (atR S t i).1, .int .i64 (atR S t i).2]) ∧ Mod No w w' := by
  have hlen := h.len
  have HSZ : Hid (Calls Try.prog 63 #[.pointer (some ⟨B, 0, none⟩)] w fun e w2 => e = .returned (.int .i64 S.length) ∧ w = w2) := size_made w h
  have ds : ((S.length : Int) == 0) = false := beq_eq_false_iff_ne.2 (by omega)
  by_cases hi : 0 ≤ i ∧ i < 64
  · have d1 : decide (i < 0) = false := decide_eq_false (by omega)
    have d2 : decide (64 ≤ i) = false := decide_eq_false (by omega)
    by_cases ht : 0 ≤ t ∧ t < S.length
    · obtain ⟨f, hf⟩ : ∃ f, S[t.toNat]? = some f := ⟨_, List.getElem?_eq_getElem (by omega)⟩
      have hR := Lib.hid (read_in t (4 * i) 4 f w h ⟨ht, by omega, by omega, by omega⟩ hf)
      have hfo := h.ok f (List.mem_of_getElem? hf)
      obtain ⟨b0, b1, b2, b3, hb, r0, r1, r2, r3⟩ := bytes4 hfo (k := (4 * i).toNat) (by omega)
      have e : atR S t i = (word4 [b0, b1, b2, b3], 0) := by rw [atR_in hi ht hf, hb]
      rw [e]
      have HO := Lib.hid (or4 r0 r1 r2 r3)
      have HB := Lib.hid hb
      clear e hb hf hfo
      go_enter Try.func24, Try.ntmps24
      go_wp2_with (go_at_call 63; refine HSZ.out.mono ?_; rintro e w' ⟨rfl, rfl⟩)
      refine hR.out.mono ?_
      rintro e w2 ⟨rfl, hm2, hs2, hg2⟩
      rw [show (4 : Int).toNat = 4 from rfl, HB.out] at hg2
      have x0 := row_cell (l := [Value.int .u8 b0, .int .u8 b1, .int .u8 b2, .int .u8 b3]) hg2 0
      have x1 := row_cell (l := [Value.int .u8 b0, .int .u8 b1, .int .u8 b2, .int .u8 b3]) hg2 1
      have x2 := row_cell (l := [Value.int .u8 b0, .int .u8 b1, .int .u8 b2, .int .u8 b3]) hg2 2
      have x3 := row_cell (l := [Value.int .u8 b0, .int .u8 b1, .int .u8 b2, .int .u8 b3]) hg2 3
      simp only [List.getElem?_cons_zero, List.getElem?_cons_succ] at x0 x1 x2 x3
      clear hg2
      go_wp2_with fail
      go_quiet (fail)
      go_wp2
      go_ret2
      exact ⟨by rw [← HO.out]; rfl, hm2.drewN _⟩
    · have e : atR S t i = (0, 1) := atR_out (fun q => ht q.2)
      rw [e]
      have hR := Lib.hid (read_out t (4 * i) 4 w h (fun q => ht q.1))
      clear e
      go_enter Try.func24, Try.ntmps24
      go_wp2_with (go_at_call 63; refine HSZ.out.mono ?_; rintro e w' ⟨rfl, rfl⟩)
      refine hR.out.mono ?_
      rintro e w2 ⟨rfl, rfl⟩
      go_wp2
      go_ret2
      exact ⟨rfl, Mod.refl _ _⟩
  · have e : atR S t i = (0, 1) := atR_out (fun q => hi q.1)
    rw [e]
    clear e
    by_cases hi0 : i < 0
    · have d1 : decide (i < 0) = true := decide_eq_true hi0
      go_enter Try.func24, Try.ntmps24
      go_wp2_with (go_at_call 63; refine HSZ.out.mono ?_; rintro e w' ⟨rfl, rfl⟩)
      go_ret2
      exact ⟨rfl, Mod.refl _ _⟩
    · have d1 : decide (i < 0) = false := decide_eq_false hi0
      have d2 : decide (64 ≤ i) = true := decide_eq_true (by omega)
      go_enter Try.func24, Try.ntmps24
      go_wp2_with (go_at_call 63; refine HSZ.out.mono ?_; rintro e w' ⟨rfl, rfl⟩)
      go_ret2
      exact ⟨rfl, Mod.refl _ _⟩

set_option maxHeartbeats 1600000 in
theorem rat_any {K : RfK} {S : List Fr} (t i : Int) (w : World) (h : RfM w K S) :
    Calls Try.prog 25 #[.pointer (some ⟨K.R, 0, none⟩), .int .i64 t, .int .i64 i] w fun e w' => e = .returned (.tuple #[.int .u32 (atR S t i).1, .int .i64 (atR S t i).2]) ∧ Mod No w w' := by
  have hlen := h.len
  by_cases ht : 0 ≤ t ∧ t < S.length
  · have HIS : Hid (Calls Try.prog 72 #[.pointer (some ⟨K.R, 0, none⟩), .int .i64 t] w fun e w' => e = .returned (.bool true) ∧ w = w') := ris_in t w h ht.1 ht.2
    by_cases hi : 0 ≤ i ∧ i < 64
    · obtain ⟨k, rfl⟩ : ∃ k : Nat, i = k := ⟨i.toNat, by omega⟩
      obtain ⟨q, rfl⟩ : ∃ q : Nat, t = q := ⟨t.toNat, by omega⟩
      have d1 : decide ((k : Int) < 0) = false := decide_eq_false (by omega)
      have d2 : decide ((63 : Int) < k) = false := decide_eq_false (by omega)
      obtain ⟨f, hf⟩ : ∃ f, S[q]? = some f := ⟨_, List.getElem?_eq_getElem (by omega)⟩
      obtain ⟨cB, hcB, hB0⟩ := h.cB
      obtain ⟨rb, rc, hrc, hbl, hcR, hcx, _⟩ := h.cR hf
      have hfo := h.ok f (List.mem_of_getElem? hf)
      obtain ⟨b0, b1, b2, b3, hb, r0, r1, r2, r3⟩ := bytes4 hfo (k := 4 * k) (by omega)
      have e : atR S q k = (word4 [b0, b1, b2, b3], 0) := by
        rw [atR_in hi ht (by rw [Int.toNat_natCast]; exact hf), show (4 * (k : Int)).toNat = 4 * k by omega, hb]
      have hx : ∀ j v, [b0, b1, b2, b3][j]? = some v → w.cell? ⟨rb, 4 * k + j, none⟩ = some (.int .u8 v) := by
        intro j v hj
        have hjl : j < 4 := by have := (List.getElem?_eq_some_iff.1 hj).1; simpa using this
        rw [← hb, List.getElem?_take_of_lt hjl, List.getElem?_drop] at hj
        exact hcx _ _ hj
      have x0 := hx 0 b0 rfl
      have x1 := hx 1 b1 rfl
      have x2 := hx 2 b2 rfl
      have x3 := hx 3 b3 rfl
      rw [Nat.add_zero] at x0
      have ew : ((b3 * 256 + b2) * 256 + b1) * 256 + b0 = word4 [b0, b1, b2, b3] := by simp only [word4, List.getD_cons_zero, List.getD_cons_succ]; omega
      have HE := Lib.hid ew
      clear ew
      rw [e]
      have q1 : (0 : Int) ≤ q := by omega
      have q2 : (q : Int) < S.length := by omega
      clear e hb hf hfo hx hcx hbl h
      go_enter Try.func25, Try.ntmps25
      go_wp2_with (go_at_call 72; refine HIS.out.mono ?_; rintro e w' ⟨rfl, rfl⟩)
      refine wp_loop_rounds 5 ?_
      rw [rounds_succ]
      go_wp2
      rw [rounds_succ]
      go_wp2
      rw [rounds_succ]
      go_wp2
      rw [rounds_succ]
      go_wp2
      rw [rounds_succ]
      go_wp2
      go_ret2
      exact ⟨by rw [← HE.out]; rfl, Mod.refl _ _⟩
    · have e : atR S t i = (0, 1) := atR_out (fun q => hi q.1)
      rw [e]
      clear e h
      by_cases hi0 : i < 0
      · have d1 : decide (i < 0) = true := decide_eq_true hi0
        go_enter Try.func25, Try.ntmps25
        go_wp2_with (go_at_call 72; refine HIS.out.mono ?_; rintro e w' ⟨rfl, rfl⟩)
        go_ret2
        exact ⟨rfl, Mod.refl _ _⟩
      · have d1 : decide (i < 0) = false := decide_eq_false hi0
        have d2 : decide (63 < i) = true := decide_eq_true (by omega)
        go_enter Try.func25, Try.ntmps25
        go_wp2_with (go_at_call 72; refine HIS.out.mono ?_; rintro e w' ⟨rfl, rfl⟩)
        go_ret2
        exact ⟨rfl, Mod.refl _ _⟩
  · have HIS : Hid (Calls Try.prog 72 #[.pointer (some ⟨K.R, 0, none⟩), .int .i64 t] w fun e w' => e = .returned (.bool false) ∧ w = w') := ris_out t w h (by omega)
    have e : atR S t i = (0, 1) := atR_out (fun q => ht q.2)
    rw [e]
    clear e h
    go_enter Try.func25, Try.ntmps25
    go_wp2_with (go_at_call 72; refine HIS.out.mono ?_; rintro e w' ⟨rfl, rfl⟩)
    go_ret2
    exact ⟨rfl, Mod.refl _ _⟩

end Go.Proofs.Ytlaamkojkpamaaa
