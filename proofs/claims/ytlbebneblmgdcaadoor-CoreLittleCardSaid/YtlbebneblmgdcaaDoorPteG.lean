/- Small facts on bits of 32-bit numbers, as the print spells them, in numbers alone. Page tables over frames, plainly: entries, walks, places. Entries and addresses: the code's and the document's. A table's entry's bits: the code's and the document's. A table's entry that is present: the code's and the document's. Where an address leads: the code's and the document's. (Printed by wip/gen_walk.py.) Where an address leads: the document's; both. (Printed by wip/gen_walk.py.) Where n bytes of an address lie: byte by byte, and page by page. -/
import Derived.OpenShut
import Derived.Laws.BitsAllLaws
import Derived.Test.YtlbebneblmgdcaaDoorPhysG
import Derived.WalkKit
import Derived.Test.YtlbebneblmgdcaaDoorBothG
import Derived.Deep.QuietTactic
import Derived.BigQuiet
import Derived.LoopN
import Derived.WalkMore
import Derived.ScopeJumps
/- Small facts on bits of 32-bit numbers, as the print spells them, in numbers alone. -/
namespace Go.Proofs.YtlbebneblmgdcaaDoor.BitFacts

theorem and1 (x : Int) (h0 : 0 ≤ x) (h1 : x ≤ 4294967295) : Go.bits .and .u32 x 1 = x % 2 := by
  rw [Go.u32_and x 1 h0 (by omega) (by omega) (by omega)]
  have : x.toNat &&& (1 : Int).toNat = x.toNat % 2 := Go.nat_mask1 x.toNat
  rw [this]; omega

theorem and2 (x : Int) (h0 : 0 ≤ x) (h1 : x ≤ 4294967295) : Go.bits .and .u32 x 2 = x / 2 % 2 * 2 := by
  rw [Go.u32_and x 2 h0 (by omega) (by omega) (by omega)]
  have : x.toNat &&& (2 : Int).toNat = x.toNat / 2 % 2 * 2 := Go.nat_bit 1 x.toNat
  rw [this]; omega

theorem and63 (x : Int) (h0 : 0 ≤ x) (h1 : x ≤ 4294967295) : Go.bits .and .u32 x 63 = x % 64 := by
  rw [Go.u32_and x 63 h0 (by omega) (by omega) (by omega)]
  have : x.toNat &&& (63 : Int).toNat = x.toNat % 64 := Go.nat_mask6 x.toNat
  rw [this]; omega

theorem and255 (x : Int) (h0 : 0 ≤ x) (h1 : x ≤ 4294967295) : Go.bits .and .u32 x 255 = x % 256 := by
  rw [Go.u32_and x 255 h0 (by omega) (by omega) (by omega)]
  have : x.toNat &&& (255 : Int).toNat = x.toNat % 256 := Go.nat_mask8 x.toNat
  rw [this]; omega

set_option maxRecDepth 20000 in
theorem nat252 : ∀ y : Nat, y < 256 → (y &&& 252 = 0 ↔ y ≤ 3) := by decide

theorem and252 (x : Int) (h0 : 0 ≤ x) (h1 : x ≤ 4294967295) : Go.bits .and .u32 x 252 = 0 ↔ x % 256 ≤ 3 := by
  rw [Go.u32_and x 252 h0 (by omega) (by omega) (by omega)]
  have e : x.toNat &&& (252 : Int).toNat = (x.toNat % 256) &&& 252 := by
    rw [← Go.nat_mask8 x.toNat, Nat.and_assoc]; rfl
  rw [e]
  have := nat252 (x.toNat % 256) (by omega)
  omega

theorem or_sum (x y : Int) (i : Nat) (h0 : 0 ≤ x) (h1 : x ≤ 4294967295) (h2 : 0 ≤ y) (h3 : y ≤ 4294967295) (hx : x.toNat % 2 ^ i = 0) (hy : y.toNat < 2 ^ i) : Go.bits .or .u32 x y = x + y := by
  rw [Go.u32_or x y h0 (by omega) h2 (by omega), Go.nat_join i x.toNat y.toNat hx hy]
  omega

end Go.Proofs.YtlbebneblmgdcaaDoor.BitFacts

/- Page tables over frames, plainly: entries, walks, places. -/
namespace Go.Proofs.YtlbebneblmgdcaaDoor

def word4 (l : List Int) : Int := l.getD 0 0 + 256 * l.getD 1 0 + 65536 * l.getD 2 0 + 16777216 * l.getD 3 0

/-- A table's entry's bits: the value, the error. -/
def atR (S : List Fr) (t i : Int) : Int × Int :=
  if (0 ≤ i ∧ i < 64) ∧ 0 ≤ t ∧ t < S.length then (match S[t.toNat]? with | some f => word4 ((f.bytes.drop (4 * i).toNat).take 4) | none => 0, 0) else (0, 1)

structure Ent where
  present : Bool
  write : Bool
  mfn : Int

def noEnt : Ent := ⟨false, false, 0⟩
def unpackR (n : Int) : Ent × Int := if n % 2 = 0 then (noEnt, 0) else if 3 < n % 256 then (noEnt, 4) else (⟨true, n % 4 == 3, n / 256⟩, 0)

/-- An entry that is present, of a table. -/
def entR (S : List Fr) (t i : Int) : Ent × Int :=
  if (atR S t i).2 ≠ 0 then (noEnt, (atR S t i).2) else if (unpackR (atR S t i).1).2 ≠ 0 then (noEnt, (unpackR (atR S t i).1).2) else if (unpackR (atR S t i).1).1.present = true then ((unpackR (atR S t i).1).1, 0) else (noEnt, 40)

/-- Where an address leads: frame, place, error. -/
def walkR (S : List Fr) (root va : Int) (write : Bool) : Int × Int × Int :=
  if 1048576 ≤ va then (0, 0, 1)
  else if (entR S root (va / 16384)).2 ≠ 0 then (0, 0, (entR S root (va / 16384)).2)
  else if (entR S (entR S root (va / 16384)).1.mfn (va / 256 % 64)).2 ≠ 0 then (0, 0, (entR S (entR S root (va / 16384)).1.mfn (va / 256 % 64)).2)
  else if write = true ∧ (entR S (entR S root (va / 16384)).1.mfn (va / 256 % 64)).1.write = false then (0, 0, 41)
  else if (S.length : Int) ≤ (entR S (entR S root (va / 16384)).1.mfn (va / 256 % 64)).1.mfn then (0, 0, 1)
  else ((entR S (entR S root (va / 16384)).1.mfn (va / 256 % 64)).1.mfn, va % 256, 0)

end Go.Proofs.YtlbebneblmgdcaaDoor

/- Entries and addresses: the code's and the document's. -/
namespace Go.Proofs.YtlbebneblmgdcaaDoor
open Go.RowKit
set_option maxRecDepth 100000

def Ent.val (e : Ent) : Value := .agg #[.bool e.present, .bool e.write, .int .i64 e.mfn]

theorem unpack_any (n : Int) (w : World) (h0 : 0 ≤ n) (h1 : n ≤ 4294967295) :
    Calls Tryd.prog 79 #[.int .u32 n] w fun e w' => e = .returned (.tuple #[(unpackR n).1.val, .int .i64 (unpackR n).2]) ∧ Mod No w w' := by
  have a1 := BitFacts.and1 n h0 h1
  have a2 := BitFacts.and2 n h0 h1
  have a3 := BitFacts.and252 n h0 h1
  by_cases c1 : n % 2 = 0
  · have d1 : (n % 2 == 0) = true := beq_iff_eq.2 c1
    have e : unpackR n = (noEnt, 0) := by unfold unpackR; rw [if_pos c1]
    rw [e]
    clear a2 a3 e c1
    go_enter Tryd.func79, Tryd.ntmps79
    go_wp2
    refine bodyPost_ret (v := .tuple #[noEnt.val, .int .i64 0]) (by simp [results, Tryd.results79, go_sem, Ent.val, noEnt]) rfl ⟨rfl, ?_⟩
    exact (Mod.refl No w).alloc _
  · have d1 : (n % 2 == 0) = false := beq_eq_false_iff_ne.2 c1
    by_cases c2 : 3 < n % 256
    · have d2 : (Go.bits .and .u32 n 252 != 0) = true := by rw [bne_iff_ne]; intro q; have := a3.1 q; omega
      have e : unpackR n = (noEnt, 4) := by unfold unpackR; rw [if_neg c1, if_pos c2]
      rw [e]
      clear a2 a3 e c1
      go_enter Tryd.func79, Tryd.ntmps79
      go_wp2
      refine bodyPost_ret (v := .tuple #[noEnt.val, .int .i64 4]) (by simp [results, Tryd.results79, go_sem, Ent.val, noEnt]) rfl ⟨rfl, ?_⟩
      exact (Mod.refl No w).alloc _
    · have d2 : (Go.bits .and .u32 n 252 != 0) = false := by rw [bne_eq_false_iff_eq]; exact a3.2 (by omega)
      have e : unpackR n = (⟨true, n % 4 == 3, n / 256⟩, 0) := by unfold unpackR; rw [if_neg c1, if_neg c2]
      have b2 : (n / 2 % 2 * 2 != 0) = (n % 4 == 3) := by rw [Bool.eq_iff_iff, bne_iff_ne, beq_iff_eq]; omega
      rw [e]
      have HB := Lib.hid b2
      clear a3 e c1 b2
      go_enter Tryd.func79, Tryd.ntmps79
      go_wp2
      refine bodyPost_ret (v := .tuple #[.agg #[.bool true, .bool (n / 2 % 2 * 2 != 0), .int .i64 (n / 256)], .int .i64 0]) (by simp [results, Tryd.results79, go_sem]) rfl ⟨by rw [HB.out]; rfl, ?_⟩
      exact (Mod.refl No w).alloc _

theorem runpack_any (n : Int) (w : World) (h0 : 0 ≤ n) (h1 : n ≤ 4294967295) :
    Calls Tryd.prog 67 #[.int .u32 n] w fun e w' => e = .returned (.tuple #[(unpackR n).1.val, .int .i64 (unpackR n).2]) ∧ Mod No w w' := by
  by_cases c1 : n % 2 = 0
  · have d1 : (n % 2 == 0) = true := beq_iff_eq.2 c1
    have e : unpackR n = (noEnt, 0) := by unfold unpackR; rw [if_pos c1]
    rw [e]
    clear e c1
    go_enter Tryd.func67, Tryd.ntmps67
    go_wp2
    refine bodyPost_ret (v := .tuple #[noEnt.val, .int .i64 0]) (by simp [results, Tryd.results67, go_sem, Ent.val, noEnt]) rfl ⟨rfl, ?_⟩
    exact (Mod.refl No w).alloc _
  · have d1 : (n % 2 == 0) = false := beq_eq_false_iff_ne.2 c1
    by_cases c2 : 3 < n % 256
    · have d2 : decide (3 < n % 256) = true := decide_eq_true c2
      have e : unpackR n = (noEnt, 4) := by unfold unpackR; rw [if_neg c1, if_pos c2]
      rw [e]
      clear e c1
      go_enter Tryd.func67, Tryd.ntmps67
      go_wp2
      refine bodyPost_ret (v := .tuple #[noEnt.val, .int .i64 4]) (by simp [results, Tryd.results67, go_sem, Ent.val, noEnt]) rfl ⟨rfl, ?_⟩
      exact (Mod.refl No w).alloc _
    · have d2 : decide (3 < n % 256) = false := decide_eq_false c2
      have e : unpackR n = (⟨true, n % 4 == 3, n / 256⟩, 0) := by unfold unpackR; rw [if_neg c1, if_neg c2]
      rw [e]
      clear e c1
      go_enter Tryd.func67, Tryd.ntmps67
      go_wp2
      refine bodyPost_ret (v := .tuple #[.agg #[.bool true, .bool (n % 4 == 3), .int .i64 (n / 256)], .int .i64 0]) (by simp [results, Tryd.results67, go_sem]) rfl ⟨rfl, ?_⟩
      exact (Mod.refl No w).alloc _

theorem split_yes (n : Int) (w : World) (h0 : 0 ≤ n) (h1 : n < 1048576) :
    Calls Tryd.prog 72 #[.int .u32 n] w fun e w' => e = .returned (.tuple #[.int .i64 (n / 16384), .int .i64 (n / 256 % 64), .int .i64 (n % 256), .int .i64 0]) ∧ w = w' := by
  have a1 := BitFacts.and63 (n / 256) (by omega) (by omega)
  have a2 := BitFacts.and255 n h0 (by omega)
  have d1 : (n / 1048576 != 0) = false := by rw [bne_eq_false_iff_eq]; omega
  go_enter Tryd.func72, Tryd.ntmps72
  go_wp2
  exact bodyPost_ret (v := .tuple #[.int .i64 (n / 16384), .int .i64 (n / 256 % 64), .int .i64 (n % 256), .int .i64 0]) (by simp [results, Tryd.results72, go_sem]) rfl ⟨rfl, rfl⟩
theorem split_no (n : Int) (w : World) (h0 : 1048576 ≤ n) (h1 : n ≤ 4294967295) :
    Calls Tryd.prog 72 #[.int .u32 n] w fun e w' => e = .returned (.tuple #[.int .i64 0, .int .i64 0, .int .i64 0, .int .i64 1]) ∧ w = w' := by
  have d1 : (n / 1048576 != 0) = true := by rw [bne_iff_ne]; omega
  go_enter Tryd.func72, Tryd.ntmps72
  go_wp2
  exact bodyPost_ret (v := .tuple #[.int .i64 0, .int .i64 0, .int .i64 0, .int .i64 1]) (by simp [results, Tryd.results72, go_sem]) rfl ⟨rfl, rfl⟩
theorem rsplit_yes (n : Int) (w : World) (h0 : 0 ≤ n) (h1 : n < 1048576) :
    Calls Tryd.prog 53 #[.int .u32 n] w fun e w' => e = .returned (.tuple #[.int .i64 (n / 16384), .int .i64 (n / 256 % 64), .int .i64 (n % 256), .int .i64 0]) ∧ w = w' := by
  have d1 : decide (1048576 ≤ n) = false := decide_eq_false (by omega)
  go_enter Tryd.func53, Tryd.ntmps53
  go_wp2
  exact bodyPost_ret (v := .tuple #[.int .i64 (n / 16384), .int .i64 (n / 256 % 64), .int .i64 (n % 256), .int .i64 0]) (by simp [results, Tryd.results53, go_sem]) rfl ⟨rfl, rfl⟩
theorem rsplit_no (n : Int) (w : World) (h0 : 1048576 ≤ n) :
    Calls Tryd.prog 53 #[.int .u32 n] w fun e w' => e = .returned (.tuple #[.int .i64 0, .int .i64 0, .int .i64 0, .int .i64 1]) ∧ w = w' := by
  have d1 : decide (1048576 ≤ n) = true := decide_eq_true h0
  go_enter Tryd.func53, Tryd.ntmps53
  go_wp2
  exact bodyPost_ret (v := .tuple #[.int .i64 0, .int .i64 0, .int .i64 0, .int .i64 1]) (by simp [results, Tryd.results53, go_sem]) rfl ⟨rfl, rfl⟩

end Go.Proofs.YtlbebneblmgdcaaDoor

/- A table's entry's bits: the code's and the document's. -/
namespace Go.Proofs.YtlbebneblmgdcaaDoor
open Go.RowKit
set_option maxRecDepth 100000

theorem atR_in {S : List Fr} {t i : Int} {f : Fr} (hi : 0 ≤ i ∧ i < 64) (ht : 0 ≤ t ∧ t < S.length) (hf : S[t.toNat]? = some f) : atR S t i = (word4 ((f.bytes.drop (4 * i).toNat).take 4), 0) := by
  unfold atR; rw [if_pos ⟨hi, ht⟩, hf]
theorem atR_out {S : List Fr} {t i : Int} (h : ¬ ((0 ≤ i ∧ i < 64) ∧ 0 ≤ t ∧ t < S.length)) : atR S t i = (0, 1) := by
  unfold atR; rw [if_neg h]

theorem bytes4 {f : Fr} (hf : f.ok) {k : Nat} (hk : k + 4 ≤ 256) : ∃ b0 b1 b2 b3 : Int, (f.bytes.drop k).take 4 = [b0, b1, b2, b3] ∧ (0 ≤ b0 ∧ b0 ≤ 255) ∧ (0 ≤ b1 ∧ b1 ≤ 255) ∧ (0 ≤ b2 ∧ b2 ≤ 255) ∧ (0 ≤ b3 ∧ b3 ≤ 255) := by
  have hl : ((f.bytes.drop k).take 4).length = 4 := by rw [List.length_take, List.length_drop, hf.1]; omega
  have hm : ∀ x ∈ (f.bytes.drop k).take 4, 0 ≤ x ∧ x ≤ 255 := fun x hx => hf.2 x (List.mem_of_mem_drop (List.mem_of_mem_take hx))
  match h : (f.bytes.drop k).take 4, hl with
  | [b0, b1, b2, b3], _ =>
    rw [h] at hm
    exact ⟨b0, b1, b2, b3, rfl, hm b0 (by simp), hm b1 (by simp), hm b2 (by simp), hm b3 (by simp)⟩

theorem word4_range {b0 b1 b2 b3 : Int} (h0 : 0 ≤ b0 ∧ b0 ≤ 255) (h1 : 0 ≤ b1 ∧ b1 ≤ 255) (h2 : 0 ≤ b2 ∧ b2 ≤ 255) (h3 : 0 ≤ b3 ∧ b3 ≤ 255) : 0 ≤ word4 [b0, b1, b2, b3] ∧ word4 [b0, b1, b2, b3] ≤ 4294967295 := by
  simp only [word4, List.getD_cons_zero, List.getD_cons_succ]; omega

theorem or_low (x y : Int) (i : Nat) (h0 : 0 ≤ x) (h1 : x ≤ 4294967295) (h2 : 0 ≤ y) (h3 : y ≤ 4294967295) (hx : y.toNat % 2 ^ i = 0) (hy : x.toNat < 2 ^ i) : Go.bits .or .u32 x y = x + y := by
  rw [Go.u32_or x y h0 (by omega) h2 (by omega), Nat.or_comm, Go.nat_join i y.toNat x.toNat hx hy]
  omega

theorem or4 {b0 b1 b2 b3 : Int} (h0 : 0 ≤ b0 ∧ b0 ≤ 255) (h1 : 0 ≤ b1 ∧ b1 ≤ 255) (h2 : 0 ≤ b2 ∧ b2 ≤ 255) (h3 : 0 ≤ b3 ∧ b3 ≤ 255) :
    Go.bits .or .u32 (Go.bits .or .u32 (Go.bits .or .u32 b0 (b1 * 256)) (b2 * 65536)) (b3 * 16777216) = word4 [b0, b1, b2, b3] := by
  rw [or_low b0 (b1 * 256) 8 h0.1 (by omega) (by omega) (by omega) (by omega) (by omega), or_low (b0 + b1 * 256) (b2 * 65536) 16 (by omega) (by omega) (by omega) (by omega) (by omega) (by omega),
    or_low (b0 + b1 * 256 + b2 * 65536) (b3 * 16777216) 24 (by omega) (by omega) (by omega) (by omega) (by omega) (by omega)]
  simp only [word4, List.getD_cons_zero, List.getD_cons_succ]; omega

set_option maxHeartbeats 1600000 in
theorem at_any {B F : Nat} {S : List Fr} (t i : Int) (w : World) (h : PhM w B F S) :
    Calls Tryd.prog 78 #[.pointer (some ⟨B, 0, none⟩), .int .i64 t, .int .i64 i] w fun e w' => e = .returned (.tuple #[.int .u32 (atR S t i).1, .int .i64 (atR S t i).2]) ∧ Mod No w w' := by
  have hlen := h.len
  have HSZ : Hid (Calls Tryd.prog 62 #[.pointer (some ⟨B, 0, none⟩)] w fun e w2 => e = .returned (.int .i64 S.length) ∧ w = w2) := size_made w h
  have ds : ((S.length : Int) == 0) = false := beq_eq_false_iff_ne.2 (by omega)
  by_cases hi : 0 ≤ i ∧ i < 64
  · have d1 : decide (i < 0) = false := decide_eq_false (by omega)
    have d2 : decide (64 ≤ i) = false := decide_eq_false (by omega)
    by_cases ht : 0 ≤ t ∧ t < S.length
    · obtain ⟨f, hf⟩ : ∃ f, S[t.toNat]? = some f := ⟨_, List.getElem?_eq_getElem (by omega)⟩
      have hR := Lib.hid (read_in t (4 * i) 4 f w h ⟨ht, by omega, by omega, by omega⟩ hf)
      have hfo := h.ok f (List.mem_of_getElem? hf)
      obtain ⟨b0, b1, b2, b3, hb, r0, r1, r2, r3⟩ := bytes4 hfo (k := (4 * i).toNat) (by omega)
      have e : atR S t i = (word4 [b0, b1, b2, b3], 0) := by rw [atR_in hi ht hf, hb]
      rw [e]
      have HO := Lib.hid (or4 r0 r1 r2 r3)
      have HB := Lib.hid hb
      clear e hb hf hfo
      go_enter Tryd.func78, Tryd.ntmps78
      go_wp2_with (go_at_call 62; refine HSZ.out.mono ?_; rintro e w' ⟨rfl, rfl⟩)
      refine hR.out.mono ?_
      rintro e w2 ⟨rfl, hm2, hs2, hg2⟩
      rw [show (4 : Int).toNat = 4 from rfl, HB.out] at hg2
      have x0 := row_cell (l := [Value.int .u8 b0, .int .u8 b1, .int .u8 b2, .int .u8 b3]) hg2 0
      have x1 := row_cell (l := [Value.int .u8 b0, .int .u8 b1, .int .u8 b2, .int .u8 b3]) hg2 1
      have x2 := row_cell (l := [Value.int .u8 b0, .int .u8 b1, .int .u8 b2, .int .u8 b3]) hg2 2
      have x3 := row_cell (l := [Value.int .u8 b0, .int .u8 b1, .int .u8 b2, .int .u8 b3]) hg2 3
      simp only [List.getElem?_cons_zero, List.getElem?_cons_succ] at x0 x1 x2 x3
      clear hg2
      go_wp2_with fail
      go_quiet (fail)
      go_wp2
      go_ret2
      exact ⟨by rw [← HO.out]; rfl, hm2.drewN _⟩
    · have e : atR S t i = (0, 1) := atR_out (fun q => ht q.2)
      rw [e]
      have hR := Lib.hid (read_out t (4 * i) 4 w h (fun q => ht q.1))
      clear e
      go_enter Tryd.func78, Tryd.ntmps78
      go_wp2_with (go_at_call 62; refine HSZ.out.mono ?_; rintro e w' ⟨rfl, rfl⟩)
      refine hR.out.mono ?_
      rintro e w2 ⟨rfl, rfl⟩
      go_wp2
      go_ret2
      exact ⟨rfl, Mod.refl _ _⟩
  · have e : atR S t i = (0, 1) := atR_out (fun q => hi q.1)
    rw [e]
    clear e
    by_cases hi0 : i < 0
    · have d1 : decide (i < 0) = true := decide_eq_true hi0
      go_enter Tryd.func78, Tryd.ntmps78
      go_wp2_with (go_at_call 62; refine HSZ.out.mono ?_; rintro e w' ⟨rfl, rfl⟩)
      go_ret2
      exact ⟨rfl, Mod.refl _ _⟩
    · have d1 : decide (i < 0) = false := decide_eq_false hi0
      have d2 : decide (64 ≤ i) = true := decide_eq_true (by omega)
      go_enter Tryd.func78, Tryd.ntmps78
      go_wp2_with (go_at_call 62; refine HSZ.out.mono ?_; rintro e w' ⟨rfl, rfl⟩)
      go_ret2
      exact ⟨rfl, Mod.refl _ _⟩

set_option maxHeartbeats 1600000 in
theorem rat_any {K : RfK} {S : List Fr} (t i : Int) (w : World) (h : RfM w K S) :
    Calls Tryd.prog 66 #[.pointer (some ⟨K.R, 0, none⟩), .int .i64 t, .int .i64 i] w fun e w' => e = .returned (.tuple #[.int .u32 (atR S t i).1, .int .i64 (atR S t i).2]) ∧ Mod No w w' := by
  have hlen := h.len
  by_cases ht : 0 ≤ t ∧ t < S.length
  · have HIS : Hid (Calls Tryd.prog 55 #[.pointer (some ⟨K.R, 0, none⟩), .int .i64 t] w fun e w' => e = .returned (.bool true) ∧ w = w') := ris_in t w h ht.1 ht.2
    by_cases hi : 0 ≤ i ∧ i < 64
    · obtain ⟨k, rfl⟩ : ∃ k : Nat, i = k := ⟨i.toNat, by omega⟩
      obtain ⟨q, rfl⟩ : ∃ q : Nat, t = q := ⟨t.toNat, by omega⟩
      have d1 : decide ((k : Int) < 0) = false := decide_eq_false (by omega)
      have d2 : decide ((63 : Int) < k) = false := decide_eq_false (by omega)
      obtain ⟨f, hf⟩ : ∃ f, S[q]? = some f := ⟨_, List.getElem?_eq_getElem (by omega)⟩
      obtain ⟨cB, hcB, hB0⟩ := h.cB
      obtain ⟨rb, rc, hrc, hbl, hcR, hcx, _⟩ := h.cR hf
      have hfo := h.ok f (List.mem_of_getElem? hf)
      obtain ⟨b0, b1, b2, b3, hb, r0, r1, r2, r3⟩ := bytes4 hfo (k := 4 * k) (by omega)
      have e : atR S q k = (word4 [b0, b1, b2, b3], 0) := by
        rw [atR_in hi ht (by rw [Int.toNat_natCast]; exact hf), show (4 * (k : Int)).toNat = 4 * k by omega, hb]
      have hx : ∀ j v, [b0, b1, b2, b3][j]? = some v → w.cell? ⟨rb, 4 * k + j, none⟩ = some (.int .u8 v) := by
        intro j v hj
        have hjl : j < 4 := by have := (List.getElem?_eq_some_iff.1 hj).1; simpa using this
        rw [← hb, List.getElem?_take_of_lt hjl, List.getElem?_drop] at hj
        exact hcx _ _ hj
      have x0 := hx 0 b0 rfl
      have x1 := hx 1 b1 rfl
      have x2 := hx 2 b2 rfl
      have x3 := hx 3 b3 rfl
      rw [Nat.add_zero] at x0
      have ew : ((b3 * 256 + b2) * 256 + b1) * 256 + b0 = word4 [b0, b1, b2, b3] := by simp only [word4, List.getD_cons_zero, List.getD_cons_succ]; omega
      have HE := Lib.hid ew
      clear ew
      rw [e]
      have q1 : (0 : Int) ≤ q := by omega
      have q2 : (q : Int) < S.length := by omega
      clear e hb hf hfo hx hcx hbl h
      go_enter Tryd.func66, Tryd.ntmps66
      go_wp2_with (go_at_call 55; refine HIS.out.mono ?_; rintro e w' ⟨rfl, rfl⟩)
      refine wp_loop_rounds 5 ?_
      rw [rounds_succ]
      go_wp2
      rw [rounds_succ]
      go_wp2
      rw [rounds_succ]
      go_wp2
      rw [rounds_succ]
      go_wp2
      rw [rounds_succ]
      go_wp2
      go_ret2
      exact ⟨by rw [← HE.out]; rfl, Mod.refl _ _⟩
    · have e : atR S t i = (0, 1) := atR_out (fun q => hi q.1)
      rw [e]
      clear e h
      by_cases hi0 : i < 0
      · have d1 : decide (i < 0) = true := decide_eq_true hi0
        go_enter Tryd.func66, Tryd.ntmps66
        go_wp2_with (go_at_call 55; refine HIS.out.mono ?_; rintro e w' ⟨rfl, rfl⟩)
        go_ret2
        exact ⟨rfl, Mod.refl _ _⟩
      · have d1 : decide (i < 0) = false := decide_eq_false hi0
        have d2 : decide (63 < i) = true := decide_eq_true (by omega)
        go_enter Tryd.func66, Tryd.ntmps66
        go_wp2_with (go_at_call 55; refine HIS.out.mono ?_; rintro e w' ⟨rfl, rfl⟩)
        go_ret2
        exact ⟨rfl, Mod.refl _ _⟩
  · have HIS : Hid (Calls Tryd.prog 55 #[.pointer (some ⟨K.R, 0, none⟩), .int .i64 t] w fun e w' => e = .returned (.bool false) ∧ w = w') := ris_out t w h (by omega)
    have e : atR S t i = (0, 1) := atR_out (fun q => ht q.2)
    rw [e]
    clear e h
    go_enter Tryd.func66, Tryd.ntmps66
    go_wp2_with (go_at_call 55; refine HIS.out.mono ?_; rintro e w' ⟨rfl, rfl⟩)
    go_ret2
    exact ⟨rfl, Mod.refl _ _⟩

end Go.Proofs.YtlbebneblmgdcaaDoor

/- A table's entry that is present: the code's and the document's. -/
namespace Go.Proofs.YtlbebneblmgdcaaDoor
open Go.RowKit
set_option maxRecDepth 100000

theorem unpackR_err {n : Int} (h : (unpackR n).2 ≠ 0) : unpackR n = (noEnt, 4) := by
  unfold unpackR at h ⊢
  split
  · rename_i c; rw [if_pos c] at h; exact absurd rfl h
  · rename_i c; rw [if_neg c] at h; split
    · rfl
    · rename_i d; rw [if_neg d] at h; exact absurd rfl h
theorem unpackR_absent {n : Int} (h : (unpackR n).1.present = false) : (unpackR n).1 = noEnt := by
  unfold unpackR at h ⊢
  split
  · rfl
  · rename_i c; rw [if_neg c] at h; split
    · rfl
    · rename_i d; rw [if_neg d] at h; cases h

/-- What a new block of an entry's three cells gives. -/
theorem ent_block {w w2 : World} {a b : Bool} {c : Int} (hm : Mod No (w.alloc (.cells #[.bool a, .bool b, .int .i64 c] 109)) w2) :
    w2.heap[w.heap.size]? = some (.cells ([.bool a, .bool b, .int .i64 c] : List Value).toArray 109 (0, 0)) := hm.blk (heap_alloc_new w _) (fun q => q)

theorem atR_range {S : List Fr} (hS : okS S) (t i : Int) : 0 ≤ (atR S t i).1 ∧ (atR S t i).1 ≤ 4294967295 := by
  by_cases h : (0 ≤ i ∧ i < 64) ∧ 0 ≤ t ∧ t < S.length
  · obtain ⟨f, hf⟩ : ∃ f, S[t.toNat]? = some f := ⟨_, List.getElem?_eq_getElem (by omega)⟩
    rw [atR_in h.1 h.2 hf]
    obtain ⟨b0, b1, b2, b3, hb, r0, r1, r2, r3⟩ := bytes4 (hS f (List.mem_of_getElem? hf)) (k := (4 * i).toNat) (by omega)
    rw [hb]
    exact word4_range r0 r1 r2 r3
  · rw [atR_out h]; decide

theorem mod_ent {w w2 : World} {a b : Bool} {c : Int} (hm : Mod No (w.alloc (.cells #[.bool a, .bool b, .int .i64 c] 109)) w2) (x y z : Value) :
    Mod No w (((w2.setCell ⟨w.heap.size, 0, none⟩ x).setCell ⟨w.heap.size, 1, none⟩ y).setCell ⟨w.heap.size, 2, none⟩ z) := by
  have h0 : Mod No w w2 := ((Mod.refl No w).alloc _).trans hm
  exact ((h0.setCell (p := ⟨w.heap.size, 0, none⟩) (fun q => absurd q (Nat.lt_irrefl _)) _).setCell (p := ⟨w.heap.size, 1, none⟩) (fun q => absurd q (Nat.lt_irrefl _)) _).setCell (p := ⟨w.heap.size, 2, none⟩) (fun q => absurd q (Nat.lt_irrefl _)) _

set_option maxHeartbeats 1600000 in
theorem follow_any {B F : Nat} {S : List Fr} (t i : Int) (w : World) (h : PhM w B F S) :
    Calls Tryd.prog 73 #[.pointer (some ⟨B, 0, none⟩), .int .i64 t, .int .i64 i] w fun e w' => e = .returned (.tuple #[(entR S t i).1.val, .int .i64 (entR S t i).2]) ∧ Mod No w w' := by
  have hrg := atR_range h.ok t i
  have hA := at_any t i (w.alloc (.cells #[.bool false, .bool false, .int .i64 0] 109)) (h.alloc _)
  by_cases c1 : (atR S t i).2 ≠ 0
  · have e : entR S t i = (noEnt, (atR S t i).2) := by unfold entR; rw [if_pos c1]
    rw [e]
    generalize (atR S t i).1 = n at hrg hA
    generalize (atR S t i).2 = er at hA c1
    have d1 : (er != 0) = true := bne_iff_ne.2 c1
    have HA := Lib.hid hA
    clear hA e c1 h
    go_enter Tryd.func73, Tryd.ntmps73
    go_wp2_with fail
    refine HA.out.mono ?_
    rintro e w2 ⟨rfl, hm2⟩
    have hb := ent_block hm2
    have x0 := row_cell hb 0
    have x1 := row_cell hb 1
    have x2 := row_cell hb 2
    have f0 := row_free hb 0
    have f1 := row_free hb 1
    have f2 := row_free hb 2
    simp only [List.getElem?_cons_zero, List.getElem?_cons_succ] at x0 x1 x2
    go_wp2
    refine bodyPost_ret (v := .tuple #[noEnt.val, .int .i64 er]) (by simp [results, Tryd.results73, go_sem, Ent.val, noEnt, x0, x1, x2]) rfl ⟨rfl, ?_⟩
    exact mod_ent hm2 _ _ _
  · have c1' : (atR S t i).2 = 0 := by omega
    have e1 : entR S t i = if (unpackR (atR S t i).1).2 ≠ 0 then (noEnt, (unpackR (atR S t i).1).2) else if (unpackR (atR S t i).1).1.present = true then ((unpackR (atR S t i).1).1, 0) else (noEnt, 40) := by unfold entR; rw [if_neg c1]
    rw [e1]
    rw [c1'] at hA
    generalize (atR S t i).1 = n at hrg hA
    clear e1 c1 c1' h
    have HA := Lib.hid hA
    have HU := Lib.hid (fun w' => unpack_any n w' hrg.1 hrg.2)
    clear hA
    by_cases c2 : (unpackR n).2 ≠ 0
    · have e := unpackR_err c2
      rw [if_pos c2, e]
      rw [e] at HU
      clear e c2
      go_enter Tryd.func73, Tryd.ntmps73
      go_wp2_with fail
      refine HA.out.mono ?_
      rintro e w2 ⟨rfl, hm2⟩
      go_wp2_with fail
      refine (HU.out _).mono ?_
      simp only [noEnt, Ent.val]
      rintro e w3 ⟨rfl, hm3⟩
      replace hm2 := hm2.trans hm3
      clear hm3
      have hb := ent_block hm2
      have x0 := row_cell hb 0
      have x1 := row_cell hb 1
      have x2 := row_cell hb 2
      have f0 := row_free hb 0
      have f1 := row_free hb 1
      have f2 := row_free hb 2
      simp only [List.getElem?_cons_zero, List.getElem?_cons_succ] at x0 x1 x2
      have hl := lt_of_blk hb
      go_wp2
      refine bodyPost_ret (v := .tuple #[.agg #[.bool false, .bool false, .int .i64 0], .int .i64 4]) (by simp [results, Tryd.results73, go_sem, x0, x1, x2, hl]) rfl ⟨rfl, ?_⟩
      exact (mod_ent hm2 _ _ _).alloc _
    · have c2' : (unpackR n).2 = 0 := by omega
      rw [if_neg c2]
      rw [c2'] at HU
      by_cases c3 : (unpackR n).1.present = true
      · rw [if_pos c3]
        obtain ⟨q, m, hqm⟩ : ∃ q m, (unpackR n).1 = ⟨true, q, m⟩ := by
          rw [← c3]; exact ⟨_, _, rfl⟩
        rw [hqm]
        rw [hqm] at HU
        clear hqm c3 c2 c2'
        go_enter Tryd.func73, Tryd.ntmps73
        go_wp2_with fail
        refine HA.out.mono ?_
        rintro e w2 ⟨rfl, hm2⟩
        go_wp2_with fail
        refine (HU.out _).mono ?_
        simp only [Ent.val]
        rintro e w3 ⟨rfl, hm3⟩
        replace hm2 := hm2.trans hm3
        clear hm3
        have hb := ent_block hm2
        have x0 := row_cell hb 0
        have x1 := row_cell hb 1
        have x2 := row_cell hb 2
        have f0 := row_free hb 0
        have f1 := row_free hb 1
        have f2 := row_free hb 2
        simp only [List.getElem?_cons_zero, List.getElem?_cons_succ] at x0 x1 x2
        have hl := lt_of_blk hb
        go_wp2
        refine bodyPost_ret (v := .tuple #[.agg #[.bool true, .bool q, .int .i64 m], .int .i64 0]) (by simp [results, Tryd.results73, go_sem, x0, x1, x2, hl]) rfl ⟨rfl, ?_⟩
        exact (mod_ent hm2 _ _ _).alloc _
      · have hn := unpackR_absent (by simpa using c3)
        rw [if_neg c3]
        rw [hn] at HU
        clear hn c3 c2 c2'
        go_enter Tryd.func73, Tryd.ntmps73
        go_wp2_with fail
        refine HA.out.mono ?_
        rintro e w2 ⟨rfl, hm2⟩
        go_wp2_with fail
        refine (HU.out _).mono ?_
        simp only [noEnt, Ent.val]
        rintro e w3 ⟨rfl, hm3⟩
        replace hm2 := hm2.trans hm3
        clear hm3
        have hb := ent_block hm2
        have x0 := row_cell hb 0
        have x1 := row_cell hb 1
        have x2 := row_cell hb 2
        have f0 := row_free hb 0
        have f1 := row_free hb 1
        have f2 := row_free hb 2
        simp only [List.getElem?_cons_zero, List.getElem?_cons_succ] at x0 x1 x2
        have hl := lt_of_blk hb
        go_wp2
        refine bodyPost_ret (v := .tuple #[.agg #[.bool false, .bool false, .int .i64 0], .int .i64 40]) (by simp [results, Tryd.results73, go_sem, x0, x1, x2, hl]) rfl ⟨rfl, ?_⟩
        exact (mod_ent hm2 _ _ _).alloc _

set_option maxHeartbeats 1600000 in
theorem rentry_any {K : RfK} {S : List Fr} (t i : Int) (w : World) (h : RfM w K S) :
    Calls Tryd.prog 54 #[.pointer (some ⟨K.R, 0, none⟩), .int .i64 t, .int .i64 i] w fun e w' => e = .returned (.tuple #[(entR S t i).1.val, .int .i64 (entR S t i).2]) ∧ Mod No w w' := by
  have hrg := atR_range h.ok t i
  have hA := rat_any t i (w.alloc (.cells #[.bool false, .bool false, .int .i64 0] 109)) (h.alloc _)
  by_cases c1 : (atR S t i).2 ≠ 0
  · have e : entR S t i = (noEnt, (atR S t i).2) := by unfold entR; rw [if_pos c1]
    rw [e]
    generalize (atR S t i).1 = n at hrg hA
    generalize (atR S t i).2 = er at hA c1
    have d1 : (er != 0) = true := bne_iff_ne.2 c1
    have HA := Lib.hid hA
    clear hA e c1 h
    go_enter Tryd.func54, Tryd.ntmps54
    go_wp2_with fail
    refine HA.out.mono ?_
    rintro e w2 ⟨rfl, hm2⟩
    have hb := ent_block hm2
    have x0 := row_cell hb 0
    have x1 := row_cell hb 1
    have x2 := row_cell hb 2
    have f0 := row_free hb 0
    have f1 := row_free hb 1
    have f2 := row_free hb 2
    simp only [List.getElem?_cons_zero, List.getElem?_cons_succ] at x0 x1 x2
    go_wp2
    refine bodyPost_ret (v := .tuple #[noEnt.val, .int .i64 er]) (by simp [results, Tryd.results54, go_sem, Ent.val, noEnt, x0, x1, x2]) rfl ⟨rfl, ?_⟩
    exact mod_ent hm2 _ _ _
  · have c1' : (atR S t i).2 = 0 := by omega
    have e1 : entR S t i = if (unpackR (atR S t i).1).2 ≠ 0 then (noEnt, (unpackR (atR S t i).1).2) else if (unpackR (atR S t i).1).1.present = true then ((unpackR (atR S t i).1).1, 0) else (noEnt, 40) := by unfold entR; rw [if_neg c1]
    rw [e1]
    rw [c1'] at hA
    generalize (atR S t i).1 = n at hrg hA
    clear e1 c1 c1' h
    have HA := Lib.hid hA
    have HU := Lib.hid (fun w' => runpack_any n w' hrg.1 hrg.2)
    clear hA
    by_cases c2 : (unpackR n).2 ≠ 0
    · have e := unpackR_err c2
      rw [if_pos c2, e]
      rw [e] at HU
      clear e c2
      go_enter Tryd.func54, Tryd.ntmps54
      go_wp2_with fail
      refine HA.out.mono ?_
      rintro e w2 ⟨rfl, hm2⟩
      go_wp2_with fail
      refine (HU.out _).mono ?_
      simp only [noEnt, Ent.val]
      rintro e w3 ⟨rfl, hm3⟩
      replace hm2 := hm2.trans hm3
      clear hm3
      have hb := ent_block hm2
      have x0 := row_cell hb 0
      have x1 := row_cell hb 1
      have x2 := row_cell hb 2
      have f0 := row_free hb 0
      have f1 := row_free hb 1
      have f2 := row_free hb 2
      simp only [List.getElem?_cons_zero, List.getElem?_cons_succ] at x0 x1 x2
      have hl := lt_of_blk hb
      go_wp2
      refine bodyPost_ret (v := .tuple #[.agg #[.bool false, .bool false, .int .i64 0], .int .i64 4]) (by simp [results, Tryd.results54, go_sem, x0, x1, x2, hl]) rfl ⟨rfl, ?_⟩
      exact (mod_ent hm2 _ _ _).alloc _
    · have c2' : (unpackR n).2 = 0 := by omega
      rw [if_neg c2]
      rw [c2'] at HU
      by_cases c3 : (unpackR n).1.present = true
      · rw [if_pos c3]
        obtain ⟨q, m, hqm⟩ : ∃ q m, (unpackR n).1 = ⟨true, q, m⟩ := by
          rw [← c3]; exact ⟨_, _, rfl⟩
        rw [hqm]
        rw [hqm] at HU
        clear hqm c3 c2 c2'
        go_enter Tryd.func54, Tryd.ntmps54
        go_wp2_with fail
        refine HA.out.mono ?_
        rintro e w2 ⟨rfl, hm2⟩
        go_wp2_with fail
        refine (HU.out _).mono ?_
        simp only [Ent.val]
        rintro e w3 ⟨rfl, hm3⟩
        replace hm2 := hm2.trans hm3
        clear hm3
        have hb := ent_block hm2
        have x0 := row_cell hb 0
        have x1 := row_cell hb 1
        have x2 := row_cell hb 2
        have f0 := row_free hb 0
        have f1 := row_free hb 1
        have f2 := row_free hb 2
        simp only [List.getElem?_cons_zero, List.getElem?_cons_succ] at x0 x1 x2
        have hl := lt_of_blk hb
        go_wp2
        refine bodyPost_ret (v := .tuple #[.agg #[.bool true, .bool q, .int .i64 m], .int .i64 0]) (by simp [results, Tryd.results54, go_sem, x0, x1, x2, hl]) rfl ⟨rfl, ?_⟩
        exact (mod_ent hm2 _ _ _).alloc _
      · have hn := unpackR_absent (by simpa using c3)
        rw [if_neg c3]
        rw [hn] at HU
        clear hn c3 c2 c2'
        go_enter Tryd.func54, Tryd.ntmps54
        go_wp2_with fail
        refine HA.out.mono ?_
        rintro e w2 ⟨rfl, hm2⟩
        go_wp2_with fail
        refine (HU.out _).mono ?_
        simp only [noEnt, Ent.val]
        rintro e w3 ⟨rfl, hm3⟩
        replace hm2 := hm2.trans hm3
        clear hm3
        have hb := ent_block hm2
        have x0 := row_cell hb 0
        have x1 := row_cell hb 1
        have x2 := row_cell hb 2
        have f0 := row_free hb 0
        have f1 := row_free hb 1
        have f2 := row_free hb 2
        simp only [List.getElem?_cons_zero, List.getElem?_cons_succ] at x0 x1 x2
        have hl := lt_of_blk hb
        go_wp2
        refine bodyPost_ret (v := .tuple #[.agg #[.bool false, .bool false, .int .i64 0], .int .i64 40]) (by simp [results, Tryd.results54, go_sem, x0, x1, x2, hl]) rfl ⟨rfl, ?_⟩
        exact (mod_ent hm2 _ _ _).alloc _

end Go.Proofs.YtlbebneblmgdcaaDoor

/- Where an address leads: the code's and the document's. (Printed by wip/gen_walk.py.) -/
namespace Go.Proofs.YtlbebneblmgdcaaDoor
open Go.RowKit
set_option maxRecDepth 100000

/-- A scope in which the run jumps on to one label, or does not: what the jump comes to is asked where it is made. -/
theorem wp_scope_fwd {P : Program} {a : Act} {w : World} {Q : Exit → Act → World → Prop} {c rest : Code} (l : Nat) (hf : findLabel c l = some rest)
    (first : c.wp P (Exit.jump l (fun a w => rest.wp P (Exit.noGoto Q) a w) Q) a w) : (Code.scope c).wp P Q a w := by
  refine wp_scope_jumps l _ (fun _ _ => 0) hf first (fun a w hJ => Code.wp_mono (fun e a w h => ?_) hJ)
  cases e with
  | goto l' => exact (h : False).elim
  | _ => exact h

theorem entR_ok {S : List Fr} (hS : okS S) (t i : Int) : 0 ≤ (entR S t i).1.mfn := by
  have hr := atR_range hS t i
  unfold entR
  split
  · simp [noEnt]
  · split
    · simp [noEnt]
    · split
      · unfold unpackR
        split
        · simp [noEnt]
        · split
          · simp [noEnt]
          · simp only; omega
      · simp [noEnt]

theorem mod_set3 {w w2 : World} {b : Nat} (h : Mod No w w2) (hb : w.heap.size ≤ b) (x y z : Value) : Mod No w (((w2.setCell ⟨b, 0, none⟩ x).setCell ⟨b, 1, none⟩ y).setCell ⟨b, 2, none⟩ z) :=
  ((h.setCell (p := ⟨b, 0, none⟩) (fun q => absurd q (by simp only; omega)) _).setCell (p := ⟨b, 1, none⟩) (fun q => absurd q (by simp only; omega)) _).setCell (p := ⟨b, 2, none⟩) (fun q => absurd q (by simp only; omega)) _
theorem blk_set3 {w2 : World} {b c : Nat} {o : Obj} (h : w2.heap[c]? = some o) (hb : c ≠ b) (x y z : Value) : (((w2.setCell ⟨b, 0, none⟩ x).setCell ⟨b, 1, none⟩ y).setCell ⟨b, 2, none⟩ z).heap[c]? = some o :=
  blk_setCell (p := ⟨b, 2, none⟩) (blk_setCell (p := ⟨b, 1, none⟩) (blk_setCell (p := ⟨b, 0, none⟩) h hb _) hb _) hb _

set_option maxHeartbeats 1600000 in
theorem walk_1 {B F : Nat} {S : List Fr} (root va : Int) (wr : Bool) (w : World) (h : PhM w B F S) (hv : 1048576 ≤ va) (hv2 : va ≤ 4294967295) :
    Calls Tryd.prog 63 #[.pointer (some ⟨B, 0, none⟩), .int .i64 root, .int .u32 va, .bool wr] w fun e w' => e = .returned (.tuple #[.int .i64 0, .int .i64 0, .int .i64 1]) ∧ Mod No w w' := by
  have hlen := h.len
  have ds : ((S.length : Int) == 0) = false := beq_eq_false_iff_ne.2 (by omega)
  have HSZ : Hid (∀ w', Mod No w w' → Calls Tryd.prog 62 #[.pointer (some ⟨B, 0, none⟩)] w' fun e w2 => e = .returned (.int .i64 S.length) ∧ w' = w2) := fun w' hm => size_made w' (h.kept hm (fun q => q) (fun q => q))
  have HSP := Lib.hid (fun w' => split_no va w' hv hv2)
  clear hv hv2 h
  go_enter Tryd.func63, Tryd.ntmps63
  go_wp2
  refine wp_scope_fwd 0 rfl ?_
  go_wp2_with fail
  refine (HSZ.out _ (((Mod.refl No w).alloc _).alloc _)).mono ?_
  rintro e w2 ⟨rfl, rfl⟩
  go_wp2_with fail
  refine (HSP.out _).mono ?_
  rintro e w2 ⟨rfl, rfl⟩
  go_wp2
  go_step3
  refine ⟨rfl, ?_⟩
  go_wp2
  rw [Exit.noGoto_ret]
  go_ret3
  exact ⟨rfl, ((Mod.refl No w).alloc _).alloc _⟩

set_option maxHeartbeats 1600000 in
theorem walk_2 {B F : Nat} {S : List Fr} (root va : Int) (wr : Bool) (w : World) (h : PhM w B F S) (hv : 0 ≤ va) (hv2 : va < 1048576) (he : (entR S root (va / 16384)).2 ≠ 0) :
    Calls Tryd.prog 63 #[.pointer (some ⟨B, 0, none⟩), .int .i64 root, .int .u32 va, .bool wr] w fun e w' => e = .returned (.tuple #[.int .i64 0, .int .i64 0, .int .i64 (entR S root (va / 16384)).2]) ∧ Mod No w w' := by
  have hlen := h.len
  have ds : ((S.length : Int) == 0) = false := beq_eq_false_iff_ne.2 (by omega)
  have HSZ : Hid (∀ w', Mod No w w' → Calls Tryd.prog 62 #[.pointer (some ⟨B, 0, none⟩)] w' fun e w2 => e = .returned (.int .i64 S.length) ∧ w' = w2) := fun w' hm => size_made w' (h.kept hm (fun q => q) (fun q => q))
  have HSP := Lib.hid (fun w' => split_yes va w' hv hv2)
  have HF1 : Hid (∀ w', Mod No w w' → Calls Tryd.prog 73 #[.pointer (some ⟨B, 0, none⟩), .int .i64 root, .int .i64 (va / 16384)] w' fun e w2 => e = .returned (.tuple #[(entR S root (va / 16384)).1.val, .int .i64 (entR S root (va / 16384)).2]) ∧ Mod No w' w2) := fun w' hm => follow_any _ _ w' (h.kept hm (fun q => q) (fun q => q))
  obtain ⟨p1, q1, m1⟩ := (entR S root (va / 16384)).1
  generalize (entR S root (va / 16384)).2 = er at he HF1 ⊢
  have de : (er != 0) = true := bne_iff_ne.2 he
  simp only [Ent.val] at HF1
  clear he h
  go_enter Tryd.func63, Tryd.ntmps63
  go_wp2
  refine wp_scope_fwd 0 rfl ?_
  go_wp2_with fail
  refine (HSZ.out _ (((Mod.refl No w).alloc _).alloc _)).mono ?_
  rintro e w2 ⟨rfl, rfl⟩
  go_wp2_with fail
  refine (HSP.out _).mono ?_
  rintro e w2 ⟨rfl, rfl⟩
  go_wp2_with fail
  refine (HF1.out _ (((Mod.refl No w).alloc _).alloc _)).mono ?_
  rintro e w2 ⟨rfl, hm2⟩
  have hb1 : w2.heap[w.heap.size]? = some (.cells ([.bool false, .bool false, .int .i64 0] : List Value).toArray 109 (0, 0)) := hm2.blk (blk_alloc (heap_alloc_new w _) _) (fun q => q)
  have hb2 : w2.heap[w.heap.size + 1]? = some (.cells ([.bool false, .bool false, .int .i64 0] : List Value).toArray 109 (0, 0)) := hm2.blk (by have := heap_alloc_new (w.alloc (.cells #[.bool false, .bool false, .int .i64 0] 109)) (.cells #[.bool false, .bool false, .int .i64 0] 109); rwa [World.size_alloc] at this) (fun q => q)
  have hm02 : Mod No w w2 := (((Mod.refl No w).alloc _).alloc _).trans hm2
  have x0 := row_cell hb1 0
  have x1 := row_cell hb1 1
  have x2 := row_cell hb1 2
  have xf0 := row_free hb1 0
  have xf1 := row_free hb1 1
  have xf2 := row_free hb1 2
  simp only [List.getElem?_cons_zero, List.getElem?_cons_succ] at x0 x1 x2
  have HM := Lib.hid hm02
  clear hm02 hm2
  go_wp2
  go_step3
  refine ⟨rfl, ?_⟩
  go_wp2
  rw [Exit.noGoto_ret]
  go_ret3
  exact ⟨rfl, mod_set3 HM.out (Nat.le_refl _) _ _ _⟩

set_option maxHeartbeats 1600000 in
theorem walk_3 {B F : Nat} {S : List Fr} (root va : Int) (wr : Bool) (w : World) (h : PhM w B F S) (hv : 0 ≤ va) (hv2 : va < 1048576) (he : (entR S root (va / 16384)).2 = 0) (hy : (entR S (entR S root (va / 16384)).1.mfn (va / 256 % 64)).2 ≠ 0) :
    Calls Tryd.prog 63 #[.pointer (some ⟨B, 0, none⟩), .int .i64 root, .int .u32 va, .bool wr] w fun e w' => e = .returned (.tuple #[.int .i64 0, .int .i64 0, .int .i64 (entR S (entR S root (va / 16384)).1.mfn (va / 256 % 64)).2]) ∧ Mod No w w' := by
  have hlen := h.len
  have ds : ((S.length : Int) == 0) = false := beq_eq_false_iff_ne.2 (by omega)
  have HSZ : Hid (∀ w', Mod No w w' → Calls Tryd.prog 62 #[.pointer (some ⟨B, 0, none⟩)] w' fun e w2 => e = .returned (.int .i64 S.length) ∧ w' = w2) := fun w' hm => size_made w' (h.kept hm (fun q => q) (fun q => q))
  have HSP := Lib.hid (fun w' => split_yes va w' hv hv2)
  have HF1 : Hid (∀ w', Mod No w w' → Calls Tryd.prog 73 #[.pointer (some ⟨B, 0, none⟩), .int .i64 root, .int .i64 (va / 16384)] w' fun e w2 => e = .returned (.tuple #[(entR S root (va / 16384)).1.val, .int .i64 (entR S root (va / 16384)).2]) ∧ Mod No w' w2) := fun w' hm => follow_any _ _ w' (h.kept hm (fun q => q) (fun q => q))
  have HF2 : Hid (∀ w', Mod No w w' → Calls Tryd.prog 73 #[.pointer (some ⟨B, 0, none⟩), .int .i64 (entR S root (va / 16384)).1.mfn, .int .i64 (va / 256 % 64)] w' fun e w2 => e = .returned (.tuple #[(entR S (entR S root (va / 16384)).1.mfn (va / 256 % 64)).1.val, .int .i64 (entR S (entR S root (va / 16384)).1.mfn (va / 256 % 64)).2]) ∧ Mod No w' w2) := fun w' hm => follow_any _ _ w' (h.kept hm (fun q => q) (fun q => q))
  rw [he] at HF1
  generalize entR S (entR S root (va / 16384)).1.mfn (va / 256 % 64) = E2 at hy HF2 ⊢
  generalize (entR S root (va / 16384)).1 = E1 at HF1 HF2
  obtain ⟨p1, q1, m1⟩ := E1
  obtain ⟨⟨p2, q2, m2⟩, er⟩ := E2
  simp only [Ent.val] at hy HF1 HF2 ⊢
  have de : (er != 0) = true := bne_iff_ne.2 hy
  clear he h hy
  go_enter Tryd.func63, Tryd.ntmps63
  go_wp2
  refine wp_scope_fwd 0 rfl ?_
  go_wp2_with fail
  refine (HSZ.out _ (((Mod.refl No w).alloc _).alloc _)).mono ?_
  rintro e w2 ⟨rfl, rfl⟩
  go_wp2_with fail
  refine (HSP.out _).mono ?_
  rintro e w2 ⟨rfl, rfl⟩
  go_wp2_with fail
  refine (HF1.out _ (((Mod.refl No w).alloc _).alloc _)).mono ?_
  rintro e w2 ⟨rfl, hm2⟩
  have hb1 : w2.heap[w.heap.size]? = some (.cells ([.bool false, .bool false, .int .i64 0] : List Value).toArray 109 (0, 0)) := hm2.blk (blk_alloc (heap_alloc_new w _) _) (fun q => q)
  have hb2 : w2.heap[w.heap.size + 1]? = some (.cells ([.bool false, .bool false, .int .i64 0] : List Value).toArray 109 (0, 0)) := hm2.blk (by have := heap_alloc_new (w.alloc (.cells #[.bool false, .bool false, .int .i64 0] 109)) (.cells #[.bool false, .bool false, .int .i64 0] 109); rwa [World.size_alloc] at this) (fun q => q)
  have hm02 : Mod No w w2 := (((Mod.refl No w).alloc _).alloc _).trans hm2
  have x0 := row_cell hb1 0
  have x1 := row_cell hb1 1
  have x2 := row_cell hb1 2
  have xf0 := row_free hb1 0
  have xf1 := row_free hb1 1
  have xf2 := row_free hb1 2
  simp only [List.getElem?_cons_zero, List.getElem?_cons_succ] at x0 x1 x2
  have hl1 := lt_of_blk hb1
  have HM := Lib.hid (mod_set3 hm02 (Nat.le_refl _) (.bool p1) (.bool q1) (.int .i64 m1))
  have HB2 := Lib.hid (blk_set3 hb2 (show w.heap.size + 1 ≠ w.heap.size by omega) (.bool p1) (.bool q1) (.int .i64 m1))
  clear hm02 hm2 hb1 hb2
  go_wp2_with fail
  refine (HF2.out _ HM.out).mono ?_
  rintro e w4 ⟨rfl, hm4⟩
  have hb2 := hm4.blk HB2.out (fun q => q)
  have y0 := row_cell hb2 0
  have y1 := row_cell hb2 1
  have y2 := row_cell hb2 2
  have yf0 := row_free hb2 0
  have yf1 := row_free hb2 1
  have yf2 := row_free hb2 2
  simp only [List.getElem?_cons_zero, List.getElem?_cons_succ] at y0 y1 y2
  have HM2 := Lib.hid (HM.out.trans hm4)
  have hl2 := lt_of_blk hb2
  clear hm4 hb2 HM HB2
  go_wp2
  go_step3
  refine ⟨rfl, ?_⟩
  go_wp2
  rw [Exit.noGoto_ret]
  go_ret3
  exact ⟨rfl, mod_set3 HM2.out (Nat.le_succ _) _ _ _⟩

set_option maxHeartbeats 1600000 in
theorem walk_4 {B F : Nat} {S : List Fr} (root va : Int) (wr : Bool) (w : World) (h : PhM w B F S) (hv : 0 ≤ va) (hv2 : va < 1048576) (he : (entR S root (va / 16384)).2 = 0) (hy : (entR S (entR S root (va / 16384)).1.mfn (va / 256 % 64)).2 = 0) (hw : (entR S (entR S root (va / 16384)).1.mfn (va / 256 % 64)).1.write = false) (hwr : wr = true) :
    Calls Tryd.prog 63 #[.pointer (some ⟨B, 0, none⟩), .int .i64 root, .int .u32 va, .bool wr] w fun e w' => e = .returned (.tuple #[.int .i64 0, .int .i64 0, .int .i64 41]) ∧ Mod No w w' := by
  have hlen := h.len
  have ds : ((S.length : Int) == 0) = false := beq_eq_false_iff_ne.2 (by omega)
  have HSZ : Hid (∀ w', Mod No w w' → Calls Tryd.prog 62 #[.pointer (some ⟨B, 0, none⟩)] w' fun e w2 => e = .returned (.int .i64 S.length) ∧ w' = w2) := fun w' hm => size_made w' (h.kept hm (fun q => q) (fun q => q))
  have HSP := Lib.hid (fun w' => split_yes va w' hv hv2)
  have HF1 : Hid (∀ w', Mod No w w' → Calls Tryd.prog 73 #[.pointer (some ⟨B, 0, none⟩), .int .i64 root, .int .i64 (va / 16384)] w' fun e w2 => e = .returned (.tuple #[(entR S root (va / 16384)).1.val, .int .i64 (entR S root (va / 16384)).2]) ∧ Mod No w' w2) := fun w' hm => follow_any _ _ w' (h.kept hm (fun q => q) (fun q => q))
  have HF2 : Hid (∀ w', Mod No w w' → Calls Tryd.prog 73 #[.pointer (some ⟨B, 0, none⟩), .int .i64 (entR S root (va / 16384)).1.mfn, .int .i64 (va / 256 % 64)] w' fun e w2 => e = .returned (.tuple #[(entR S (entR S root (va / 16384)).1.mfn (va / 256 % 64)).1.val, .int .i64 (entR S (entR S root (va / 16384)).1.mfn (va / 256 % 64)).2]) ∧ Mod No w' w2) := fun w' hm => follow_any _ _ w' (h.kept hm (fun q => q) (fun q => q))
  rw [he] at HF1
  generalize entR S (entR S root (va / 16384)).1.mfn (va / 256 % 64) = E2 at hy hw HF2 ⊢
  generalize (entR S root (va / 16384)).1 = E1 at HF1 HF2
  obtain ⟨p1, q1, m1⟩ := E1
  obtain ⟨⟨p2, q2, m2⟩, er⟩ := E2
  simp only [Ent.val] at hy hw HF1 HF2 ⊢
  subst hy hw hwr
  clear he h
  go_enter Tryd.func63, Tryd.ntmps63
  go_wp2
  refine wp_scope_fwd 0 rfl ?_
  go_wp2_with fail
  refine (HSZ.out _ (((Mod.refl No w).alloc _).alloc _)).mono ?_
  rintro e w2 ⟨rfl, rfl⟩
  go_wp2_with fail
  refine (HSP.out _).mono ?_
  rintro e w2 ⟨rfl, rfl⟩
  go_wp2_with fail
  refine (HF1.out _ (((Mod.refl No w).alloc _).alloc _)).mono ?_
  rintro e w2 ⟨rfl, hm2⟩
  have hb1 : w2.heap[w.heap.size]? = some (.cells ([.bool false, .bool false, .int .i64 0] : List Value).toArray 109 (0, 0)) := hm2.blk (blk_alloc (heap_alloc_new w _) _) (fun q => q)
  have hb2 : w2.heap[w.heap.size + 1]? = some (.cells ([.bool false, .bool false, .int .i64 0] : List Value).toArray 109 (0, 0)) := hm2.blk (by have := heap_alloc_new (w.alloc (.cells #[.bool false, .bool false, .int .i64 0] 109)) (.cells #[.bool false, .bool false, .int .i64 0] 109); rwa [World.size_alloc] at this) (fun q => q)
  have hm02 : Mod No w w2 := (((Mod.refl No w).alloc _).alloc _).trans hm2
  have x0 := row_cell hb1 0
  have x1 := row_cell hb1 1
  have x2 := row_cell hb1 2
  have xf0 := row_free hb1 0
  have xf1 := row_free hb1 1
  have xf2 := row_free hb1 2
  simp only [List.getElem?_cons_zero, List.getElem?_cons_succ] at x0 x1 x2
  have hl1 := lt_of_blk hb1
  have HM := Lib.hid (mod_set3 hm02 (Nat.le_refl _) (.bool p1) (.bool q1) (.int .i64 m1))
  have HB2 := Lib.hid (blk_set3 hb2 (show w.heap.size + 1 ≠ w.heap.size by omega) (.bool p1) (.bool q1) (.int .i64 m1))
  clear hm02 hm2 hb1 hb2
  go_wp2_with fail
  refine (HF2.out _ HM.out).mono ?_
  rintro e w4 ⟨rfl, hm4⟩
  have hb2 := hm4.blk HB2.out (fun q => q)
  have y0 := row_cell hb2 0
  have y1 := row_cell hb2 1
  have y2 := row_cell hb2 2
  have yf0 := row_free hb2 0
  have yf1 := row_free hb2 1
  have yf2 := row_free hb2 2
  simp only [List.getElem?_cons_zero, List.getElem?_cons_succ] at y0 y1 y2
  have HM2 := Lib.hid (HM.out.trans hm4)
  have hl2 := lt_of_blk hb2
  clear hm4 hb2 HM HB2
  go_wp2
  go_step3
  refine ⟨rfl, ?_⟩
  go_wp2
  rw [Exit.noGoto_ret]
  go_ret3
  exact ⟨rfl, mod_set3 HM2.out (Nat.le_succ _) _ _ _⟩

set_option maxHeartbeats 1600000 in
theorem walk_5 {B F : Nat} {S : List Fr} (root va : Int) (wr : Bool) (w : World) (h : PhM w B F S) (hv : 0 ≤ va) (hv2 : va < 1048576) (he : (entR S root (va / 16384)).2 = 0) (hy : (entR S (entR S root (va / 16384)).1.mfn (va / 256 % 64)).2 = 0) (hw : wr = false ∨ (entR S (entR S root (va / 16384)).1.mfn (va / 256 % 64)).1.write = true) (hs : (S.length : Int) ≤ (entR S (entR S root (va / 16384)).1.mfn (va / 256 % 64)).1.mfn) :
    Calls Tryd.prog 63 #[.pointer (some ⟨B, 0, none⟩), .int .i64 root, .int .u32 va, .bool wr] w fun e w' => e = .returned (.tuple #[.int .i64 0, .int .i64 0, .int .i64 1]) ∧ Mod No w w' := by
  have hlen := h.len
  have ds : ((S.length : Int) == 0) = false := beq_eq_false_iff_ne.2 (by omega)
  have HSZ : Hid (∀ w', Mod No w w' → Calls Tryd.prog 62 #[.pointer (some ⟨B, 0, none⟩)] w' fun e w2 => e = .returned (.int .i64 S.length) ∧ w' = w2) := fun w' hm => size_made w' (h.kept hm (fun q => q) (fun q => q))
  have HSP := Lib.hid (fun w' => split_yes va w' hv hv2)
  have HF1 : Hid (∀ w', Mod No w w' → Calls Tryd.prog 73 #[.pointer (some ⟨B, 0, none⟩), .int .i64 root, .int .i64 (va / 16384)] w' fun e w2 => e = .returned (.tuple #[(entR S root (va / 16384)).1.val, .int .i64 (entR S root (va / 16384)).2]) ∧ Mod No w' w2) := fun w' hm => follow_any _ _ w' (h.kept hm (fun q => q) (fun q => q))
  have HF2 : Hid (∀ w', Mod No w w' → Calls Tryd.prog 73 #[.pointer (some ⟨B, 0, none⟩), .int .i64 (entR S root (va / 16384)).1.mfn, .int .i64 (va / 256 % 64)] w' fun e w2 => e = .returned (.tuple #[(entR S (entR S root (va / 16384)).1.mfn (va / 256 % 64)).1.val, .int .i64 (entR S (entR S root (va / 16384)).1.mfn (va / 256 % 64)).2]) ∧ Mod No w' w2) := fun w' hm => follow_any _ _ w' (h.kept hm (fun q => q) (fun q => q))
  rw [he] at HF1
  generalize entR S (entR S root (va / 16384)).1.mfn (va / 256 % 64) = E2 at hy hw hs HF2 ⊢
  generalize (entR S root (va / 16384)).1 = E1 at HF1 HF2
  obtain ⟨p1, q1, m1⟩ := E1
  obtain ⟨⟨p2, q2, m2⟩, er⟩ := E2
  simp only [Ent.val] at hy hw hs HF1 HF2 ⊢
  subst hy
  have dm : decide ((S.length : Int) ≤ m2) = true := decide_eq_true (by omega)
  clear he h hs
  rcases hw with rfl | rfl
  · skip
    go_enter Tryd.func63, Tryd.ntmps63
    go_wp2
    refine wp_scope_fwd 0 rfl ?_
    go_wp2_with fail
    refine (HSZ.out _ (((Mod.refl No w).alloc _).alloc _)).mono ?_
    rintro e w2 ⟨rfl, rfl⟩
    go_wp2_with fail
    refine (HSP.out _).mono ?_
    rintro e w2 ⟨rfl, rfl⟩
    go_wp2_with fail
    refine (HF1.out _ (((Mod.refl No w).alloc _).alloc _)).mono ?_
    rintro e w2 ⟨rfl, hm2⟩
    have hb1 : w2.heap[w.heap.size]? = some (.cells ([.bool false, .bool false, .int .i64 0] : List Value).toArray 109 (0, 0)) := hm2.blk (blk_alloc (heap_alloc_new w _) _) (fun q => q)
    have hb2 : w2.heap[w.heap.size + 1]? = some (.cells ([.bool false, .bool false, .int .i64 0] : List Value).toArray 109 (0, 0)) := hm2.blk (by have := heap_alloc_new (w.alloc (.cells #[.bool false, .bool false, .int .i64 0] 109)) (.cells #[.bool false, .bool false, .int .i64 0] 109); rwa [World.size_alloc] at this) (fun q => q)
    have hm02 : Mod No w w2 := (((Mod.refl No w).alloc _).alloc _).trans hm2
    have x0 := row_cell hb1 0
    have x1 := row_cell hb1 1
    have x2 := row_cell hb1 2
    have xf0 := row_free hb1 0
    have xf1 := row_free hb1 1
    have xf2 := row_free hb1 2
    simp only [List.getElem?_cons_zero, List.getElem?_cons_succ] at x0 x1 x2
    have hl1 := lt_of_blk hb1
    have HM := Lib.hid (mod_set3 hm02 (Nat.le_refl _) (.bool p1) (.bool q1) (.int .i64 m1))
    have HB2 := Lib.hid (blk_set3 hb2 (show w.heap.size + 1 ≠ w.heap.size by omega) (.bool p1) (.bool q1) (.int .i64 m1))
    clear hm02 hm2 hb1 hb2
    go_wp2_with fail
    refine (HF2.out _ HM.out).mono ?_
    rintro e w4 ⟨rfl, hm4⟩
    have hb2 := hm4.blk HB2.out (fun q => q)
    have y0 := row_cell hb2 0
    have y1 := row_cell hb2 1
    have y2 := row_cell hb2 2
    have yf0 := row_free hb2 0
    have yf1 := row_free hb2 1
    have yf2 := row_free hb2 2
    simp only [List.getElem?_cons_zero, List.getElem?_cons_succ] at y0 y1 y2
    have HM2 := Lib.hid (HM.out.trans hm4)
    have hl2 := lt_of_blk hb2
    clear hm4 hb2 HM HB2
    go_wp2_with fail
    have HM3 := Lib.hid (mod_set3 HM2.out (Nat.le_succ _) (.bool p2) (.bool q2) (.int .i64 m2))
    clear HM2
    go_quiet ((go_at_call 62; exact Calls.quiet_of_same ((HSZ.out _ (HM3.out.drewN _)).mono fun e w2 q => ⟨q.1, q.2.symm⟩)))
    go_wp2
    go_step3
    refine ⟨rfl, ?_⟩
    go_wp2
    rw [Exit.noGoto_ret]
    go_ret3
    exact ⟨rfl, HM3.out.drewN _⟩
  · cases wr
    · skip
      go_enter Tryd.func63, Tryd.ntmps63
      go_wp2
      refine wp_scope_fwd 0 rfl ?_
      go_wp2_with fail
      refine (HSZ.out _ (((Mod.refl No w).alloc _).alloc _)).mono ?_
      rintro e w2 ⟨rfl, rfl⟩
      go_wp2_with fail
      refine (HSP.out _).mono ?_
      rintro e w2 ⟨rfl, rfl⟩
      go_wp2_with fail
      refine (HF1.out _ (((Mod.refl No w).alloc _).alloc _)).mono ?_
      rintro e w2 ⟨rfl, hm2⟩
      have hb1 : w2.heap[w.heap.size]? = some (.cells ([.bool false, .bool false, .int .i64 0] : List Value).toArray 109 (0, 0)) := hm2.blk (blk_alloc (heap_alloc_new w _) _) (fun q => q)
      have hb2 : w2.heap[w.heap.size + 1]? = some (.cells ([.bool false, .bool false, .int .i64 0] : List Value).toArray 109 (0, 0)) := hm2.blk (by have := heap_alloc_new (w.alloc (.cells #[.bool false, .bool false, .int .i64 0] 109)) (.cells #[.bool false, .bool false, .int .i64 0] 109); rwa [World.size_alloc] at this) (fun q => q)
      have hm02 : Mod No w w2 := (((Mod.refl No w).alloc _).alloc _).trans hm2
      have x0 := row_cell hb1 0
      have x1 := row_cell hb1 1
      have x2 := row_cell hb1 2
      have xf0 := row_free hb1 0
      have xf1 := row_free hb1 1
      have xf2 := row_free hb1 2
      simp only [List.getElem?_cons_zero, List.getElem?_cons_succ] at x0 x1 x2
      have hl1 := lt_of_blk hb1
      have HM := Lib.hid (mod_set3 hm02 (Nat.le_refl _) (.bool p1) (.bool q1) (.int .i64 m1))
      have HB2 := Lib.hid (blk_set3 hb2 (show w.heap.size + 1 ≠ w.heap.size by omega) (.bool p1) (.bool q1) (.int .i64 m1))
      clear hm02 hm2 hb1 hb2
      go_wp2_with fail
      refine (HF2.out _ HM.out).mono ?_
      rintro e w4 ⟨rfl, hm4⟩
      have hb2 := hm4.blk HB2.out (fun q => q)
      have y0 := row_cell hb2 0
      have y1 := row_cell hb2 1
      have y2 := row_cell hb2 2
      have yf0 := row_free hb2 0
      have yf1 := row_free hb2 1
      have yf2 := row_free hb2 2
      simp only [List.getElem?_cons_zero, List.getElem?_cons_succ] at y0 y1 y2
      have HM2 := Lib.hid (HM.out.trans hm4)
      have hl2 := lt_of_blk hb2
      clear hm4 hb2 HM HB2
      go_wp2_with fail
      have HM3 := Lib.hid (mod_set3 HM2.out (Nat.le_succ _) (.bool p2) (.bool true) (.int .i64 m2))
      clear HM2
      go_quiet ((go_at_call 62; exact Calls.quiet_of_same ((HSZ.out _ (HM3.out.drewN _)).mono fun e w2 q => ⟨q.1, q.2.symm⟩)))
      go_wp2
      go_step3
      refine ⟨rfl, ?_⟩
      go_wp2
      rw [Exit.noGoto_ret]
      go_ret3
      exact ⟨rfl, HM3.out.drewN _⟩
    · skip
      go_enter Tryd.func63, Tryd.ntmps63
      go_wp2
      refine wp_scope_fwd 0 rfl ?_
      go_wp2_with fail
      refine (HSZ.out _ (((Mod.refl No w).alloc _).alloc _)).mono ?_
      rintro e w2 ⟨rfl, rfl⟩
      go_wp2_with fail
      refine (HSP.out _).mono ?_
      rintro e w2 ⟨rfl, rfl⟩
      go_wp2_with fail
      refine (HF1.out _ (((Mod.refl No w).alloc _).alloc _)).mono ?_
      rintro e w2 ⟨rfl, hm2⟩
      have hb1 : w2.heap[w.heap.size]? = some (.cells ([.bool false, .bool false, .int .i64 0] : List Value).toArray 109 (0, 0)) := hm2.blk (blk_alloc (heap_alloc_new w _) _) (fun q => q)
      have hb2 : w2.heap[w.heap.size + 1]? = some (.cells ([.bool false, .bool false, .int .i64 0] : List Value).toArray 109 (0, 0)) := hm2.blk (by have := heap_alloc_new (w.alloc (.cells #[.bool false, .bool false, .int .i64 0] 109)) (.cells #[.bool false, .bool false, .int .i64 0] 109); rwa [World.size_alloc] at this) (fun q => q)
      have hm02 : Mod No w w2 := (((Mod.refl No w).alloc _).alloc _).trans hm2
      have x0 := row_cell hb1 0
      have x1 := row_cell hb1 1
      have x2 := row_cell hb1 2
      have xf0 := row_free hb1 0
      have xf1 := row_free hb1 1
      have xf2 := row_free hb1 2
      simp only [List.getElem?_cons_zero, List.getElem?_cons_succ] at x0 x1 x2
      have hl1 := lt_of_blk hb1
      have HM := Lib.hid (mod_set3 hm02 (Nat.le_refl _) (.bool p1) (.bool q1) (.int .i64 m1))
      have HB2 := Lib.hid (blk_set3 hb2 (show w.heap.size + 1 ≠ w.heap.size by omega) (.bool p1) (.bool q1) (.int .i64 m1))
      clear hm02 hm2 hb1 hb2
      go_wp2_with fail
      refine (HF2.out _ HM.out).mono ?_
      rintro e w4 ⟨rfl, hm4⟩
      have hb2 := hm4.blk HB2.out (fun q => q)
      have y0 := row_cell hb2 0
      have y1 := row_cell hb2 1
      have y2 := row_cell hb2 2
      have yf0 := row_free hb2 0
      have yf1 := row_free hb2 1
      have yf2 := row_free hb2 2
      simp only [List.getElem?_cons_zero, List.getElem?_cons_succ] at y0 y1 y2
      have HM2 := Lib.hid (HM.out.trans hm4)
      have hl2 := lt_of_blk hb2
      clear hm4 hb2 HM HB2
      go_wp2_with fail
      have HM3 := Lib.hid (mod_set3 HM2.out (Nat.le_succ _) (.bool p2) (.bool true) (.int .i64 m2))
      clear HM2
      go_quiet ((go_at_call 62; exact Calls.quiet_of_same ((HSZ.out _ (HM3.out.drewN _)).mono fun e w2 q => ⟨q.1, q.2.symm⟩)))
      go_wp2
      go_step3
      refine ⟨rfl, ?_⟩
      go_wp2
      rw [Exit.noGoto_ret]
      go_ret3
      exact ⟨rfl, HM3.out.drewN _⟩

set_option maxHeartbeats 1600000 in
theorem walk_6 {B F : Nat} {S : List Fr} (root va : Int) (wr : Bool) (w : World) (h : PhM w B F S) (hv : 0 ≤ va) (hv2 : va < 1048576) (he : (entR S root (va / 16384)).2 = 0) (hy : (entR S (entR S root (va / 16384)).1.mfn (va / 256 % 64)).2 = 0) (hw : wr = false ∨ (entR S (entR S root (va / 16384)).1.mfn (va / 256 % 64)).1.write = true) (hs : (entR S (entR S root (va / 16384)).1.mfn (va / 256 % 64)).1.mfn < (S.length : Int)) :
    Calls Tryd.prog 63 #[.pointer (some ⟨B, 0, none⟩), .int .i64 root, .int .u32 va, .bool wr] w fun e w' => e = .returned (.tuple #[.int .i64 (entR S (entR S root (va / 16384)).1.mfn (va / 256 % 64)).1.mfn, .int .i64 (va % 256), .int .i64 0]) ∧ Mod No w w' := by
  have hlen := h.len
  have ds : ((S.length : Int) == 0) = false := beq_eq_false_iff_ne.2 (by omega)
  have HSZ : Hid (∀ w', Mod No w w' → Calls Tryd.prog 62 #[.pointer (some ⟨B, 0, none⟩)] w' fun e w2 => e = .returned (.int .i64 S.length) ∧ w' = w2) := fun w' hm => size_made w' (h.kept hm (fun q => q) (fun q => q))
  have HSP := Lib.hid (fun w' => split_yes va w' hv hv2)
  have HF1 : Hid (∀ w', Mod No w w' → Calls Tryd.prog 73 #[.pointer (some ⟨B, 0, none⟩), .int .i64 root, .int .i64 (va / 16384)] w' fun e w2 => e = .returned (.tuple #[(entR S root (va / 16384)).1.val, .int .i64 (entR S root (va / 16384)).2]) ∧ Mod No w' w2) := fun w' hm => follow_any _ _ w' (h.kept hm (fun q => q) (fun q => q))
  have HF2 : Hid (∀ w', Mod No w w' → Calls Tryd.prog 73 #[.pointer (some ⟨B, 0, none⟩), .int .i64 (entR S root (va / 16384)).1.mfn, .int .i64 (va / 256 % 64)] w' fun e w2 => e = .returned (.tuple #[(entR S (entR S root (va / 16384)).1.mfn (va / 256 % 64)).1.val, .int .i64 (entR S (entR S root (va / 16384)).1.mfn (va / 256 % 64)).2]) ∧ Mod No w' w2) := fun w' hm => follow_any _ _ w' (h.kept hm (fun q => q) (fun q => q))
  rw [he] at HF1
  generalize entR S (entR S root (va / 16384)).1.mfn (va / 256 % 64) = E2 at hy hw hs HF2 ⊢
  generalize (entR S root (va / 16384)).1 = E1 at HF1 HF2
  obtain ⟨p1, q1, m1⟩ := E1
  obtain ⟨⟨p2, q2, m2⟩, er⟩ := E2
  simp only [Ent.val] at hy hw hs HF1 HF2 ⊢
  subst hy
  have dm : decide ((S.length : Int) ≤ m2) = false := decide_eq_false (by omega)
  clear he h hs
  rcases hw with rfl | rfl
  · skip
    go_enter Tryd.func63, Tryd.ntmps63
    go_wp2
    refine wp_scope_fwd 0 rfl ?_
    go_wp2_with fail
    refine (HSZ.out _ (((Mod.refl No w).alloc _).alloc _)).mono ?_
    rintro e w2 ⟨rfl, rfl⟩
    go_wp2_with fail
    refine (HSP.out _).mono ?_
    rintro e w2 ⟨rfl, rfl⟩
    go_wp2_with fail
    refine (HF1.out _ (((Mod.refl No w).alloc _).alloc _)).mono ?_
    rintro e w2 ⟨rfl, hm2⟩
    have hb1 : w2.heap[w.heap.size]? = some (.cells ([.bool false, .bool false, .int .i64 0] : List Value).toArray 109 (0, 0)) := hm2.blk (blk_alloc (heap_alloc_new w _) _) (fun q => q)
    have hb2 : w2.heap[w.heap.size + 1]? = some (.cells ([.bool false, .bool false, .int .i64 0] : List Value).toArray 109 (0, 0)) := hm2.blk (by have := heap_alloc_new (w.alloc (.cells #[.bool false, .bool false, .int .i64 0] 109)) (.cells #[.bool false, .bool false, .int .i64 0] 109); rwa [World.size_alloc] at this) (fun q => q)
    have hm02 : Mod No w w2 := (((Mod.refl No w).alloc _).alloc _).trans hm2
    have x0 := row_cell hb1 0
    have x1 := row_cell hb1 1
    have x2 := row_cell hb1 2
    have xf0 := row_free hb1 0
    have xf1 := row_free hb1 1
    have xf2 := row_free hb1 2
    simp only [List.getElem?_cons_zero, List.getElem?_cons_succ] at x0 x1 x2
    have hl1 := lt_of_blk hb1
    have HM := Lib.hid (mod_set3 hm02 (Nat.le_refl _) (.bool p1) (.bool q1) (.int .i64 m1))
    have HB2 := Lib.hid (blk_set3 hb2 (show w.heap.size + 1 ≠ w.heap.size by omega) (.bool p1) (.bool q1) (.int .i64 m1))
    clear hm02 hm2 hb1 hb2
    go_wp2_with fail
    refine (HF2.out _ HM.out).mono ?_
    rintro e w4 ⟨rfl, hm4⟩
    have hb2 := hm4.blk HB2.out (fun q => q)
    have y0 := row_cell hb2 0
    have y1 := row_cell hb2 1
    have y2 := row_cell hb2 2
    have yf0 := row_free hb2 0
    have yf1 := row_free hb2 1
    have yf2 := row_free hb2 2
    simp only [List.getElem?_cons_zero, List.getElem?_cons_succ] at y0 y1 y2
    have HM2 := Lib.hid (HM.out.trans hm4)
    have hl2 := lt_of_blk hb2
    clear hm4 hb2 HM HB2
    go_wp2_with fail
    have HM3 := Lib.hid (mod_set3 HM2.out (Nat.le_succ _) (.bool p2) (.bool q2) (.int .i64 m2))
    clear HM2
    go_quiet ((go_at_call 62; exact Calls.quiet_of_same ((HSZ.out _ (HM3.out.drewN _)).mono fun e w2 q => ⟨q.1, q.2.symm⟩)))
    go_wp2
    simp only [Exit.jump]
    go_ret3
    exact ⟨rfl, HM3.out.drewN _⟩
  · cases wr
    · skip
      go_enter Tryd.func63, Tryd.ntmps63
      go_wp2
      refine wp_scope_fwd 0 rfl ?_
      go_wp2_with fail
      refine (HSZ.out _ (((Mod.refl No w).alloc _).alloc _)).mono ?_
      rintro e w2 ⟨rfl, rfl⟩
      go_wp2_with fail
      refine (HSP.out _).mono ?_
      rintro e w2 ⟨rfl, rfl⟩
      go_wp2_with fail
      refine (HF1.out _ (((Mod.refl No w).alloc _).alloc _)).mono ?_
      rintro e w2 ⟨rfl, hm2⟩
      have hb1 : w2.heap[w.heap.size]? = some (.cells ([.bool false, .bool false, .int .i64 0] : List Value).toArray 109 (0, 0)) := hm2.blk (blk_alloc (heap_alloc_new w _) _) (fun q => q)
      have hb2 : w2.heap[w.heap.size + 1]? = some (.cells ([.bool false, .bool false, .int .i64 0] : List Value).toArray 109 (0, 0)) := hm2.blk (by have := heap_alloc_new (w.alloc (.cells #[.bool false, .bool false, .int .i64 0] 109)) (.cells #[.bool false, .bool false, .int .i64 0] 109); rwa [World.size_alloc] at this) (fun q => q)
      have hm02 : Mod No w w2 := (((Mod.refl No w).alloc _).alloc _).trans hm2
      have x0 := row_cell hb1 0
      have x1 := row_cell hb1 1
      have x2 := row_cell hb1 2
      have xf0 := row_free hb1 0
      have xf1 := row_free hb1 1
      have xf2 := row_free hb1 2
      simp only [List.getElem?_cons_zero, List.getElem?_cons_succ] at x0 x1 x2
      have hl1 := lt_of_blk hb1
      have HM := Lib.hid (mod_set3 hm02 (Nat.le_refl _) (.bool p1) (.bool q1) (.int .i64 m1))
      have HB2 := Lib.hid (blk_set3 hb2 (show w.heap.size + 1 ≠ w.heap.size by omega) (.bool p1) (.bool q1) (.int .i64 m1))
      clear hm02 hm2 hb1 hb2
      go_wp2_with fail
      refine (HF2.out _ HM.out).mono ?_
      rintro e w4 ⟨rfl, hm4⟩
      have hb2 := hm4.blk HB2.out (fun q => q)
      have y0 := row_cell hb2 0
      have y1 := row_cell hb2 1
      have y2 := row_cell hb2 2
      have yf0 := row_free hb2 0
      have yf1 := row_free hb2 1
      have yf2 := row_free hb2 2
      simp only [List.getElem?_cons_zero, List.getElem?_cons_succ] at y0 y1 y2
      have HM2 := Lib.hid (HM.out.trans hm4)
      have hl2 := lt_of_blk hb2
      clear hm4 hb2 HM HB2
      go_wp2_with fail
      have HM3 := Lib.hid (mod_set3 HM2.out (Nat.le_succ _) (.bool p2) (.bool true) (.int .i64 m2))
      clear HM2
      go_quiet ((go_at_call 62; exact Calls.quiet_of_same ((HSZ.out _ (HM3.out.drewN _)).mono fun e w2 q => ⟨q.1, q.2.symm⟩)))
      go_wp2
      simp only [Exit.jump]
      go_ret3
      exact ⟨rfl, HM3.out.drewN _⟩
    · skip
      go_enter Tryd.func63, Tryd.ntmps63
      go_wp2
      refine wp_scope_fwd 0 rfl ?_
      go_wp2_with fail
      refine (HSZ.out _ (((Mod.refl No w).alloc _).alloc _)).mono ?_
      rintro e w2 ⟨rfl, rfl⟩
      go_wp2_with fail
      refine (HSP.out _).mono ?_
      rintro e w2 ⟨rfl, rfl⟩
      go_wp2_with fail
      refine (HF1.out _ (((Mod.refl No w).alloc _).alloc _)).mono ?_
      rintro e w2 ⟨rfl, hm2⟩
      have hb1 : w2.heap[w.heap.size]? = some (.cells ([.bool false, .bool false, .int .i64 0] : List Value).toArray 109 (0, 0)) := hm2.blk (blk_alloc (heap_alloc_new w _) _) (fun q => q)
      have hb2 : w2.heap[w.heap.size + 1]? = some (.cells ([.bool false, .bool false, .int .i64 0] : List Value).toArray 109 (0, 0)) := hm2.blk (by have := heap_alloc_new (w.alloc (.cells #[.bool false, .bool false, .int .i64 0] 109)) (.cells #[.bool false, .bool false, .int .i64 0] 109); rwa [World.size_alloc] at this) (fun q => q)
      have hm02 : Mod No w w2 := (((Mod.refl No w).alloc _).alloc _).trans hm2
      have x0 := row_cell hb1 0
      have x1 := row_cell hb1 1
      have x2 := row_cell hb1 2
      have xf0 := row_free hb1 0
      have xf1 := row_free hb1 1
      have xf2 := row_free hb1 2
      simp only [List.getElem?_cons_zero, List.getElem?_cons_succ] at x0 x1 x2
      have hl1 := lt_of_blk hb1
      have HM := Lib.hid (mod_set3 hm02 (Nat.le_refl _) (.bool p1) (.bool q1) (.int .i64 m1))
      have HB2 := Lib.hid (blk_set3 hb2 (show w.heap.size + 1 ≠ w.heap.size by omega) (.bool p1) (.bool q1) (.int .i64 m1))
      clear hm02 hm2 hb1 hb2
      go_wp2_with fail
      refine (HF2.out _ HM.out).mono ?_
      rintro e w4 ⟨rfl, hm4⟩
      have hb2 := hm4.blk HB2.out (fun q => q)
      have y0 := row_cell hb2 0
      have y1 := row_cell hb2 1
      have y2 := row_cell hb2 2
      have yf0 := row_free hb2 0
      have yf1 := row_free hb2 1
      have yf2 := row_free hb2 2
      simp only [List.getElem?_cons_zero, List.getElem?_cons_succ] at y0 y1 y2
      have HM2 := Lib.hid (HM.out.trans hm4)
      have hl2 := lt_of_blk hb2
      clear hm4 hb2 HM HB2
      go_wp2_with fail
      have HM3 := Lib.hid (mod_set3 HM2.out (Nat.le_succ _) (.bool p2) (.bool true) (.int .i64 m2))
      clear HM2
      go_quiet ((go_at_call 62; exact Calls.quiet_of_same ((HSZ.out _ (HM3.out.drewN _)).mono fun e w2 q => ⟨q.1, q.2.symm⟩)))
      go_wp2
      simp only [Exit.jump]
      go_ret3
      exact ⟨rfl, HM3.out.drewN _⟩

end Go.Proofs.YtlbebneblmgdcaaDoor

/- Where an address leads: the document's; both. (Printed by wip/gen_walk.py.) -/
namespace Go.Proofs.YtlbebneblmgdcaaDoor
open Go.RowKit
set_option maxRecDepth 100000

set_option maxHeartbeats 1600000 in
theorem rwalk_1 {K : RfK} (root va : Int) (wr : Bool) (w : World) (hv : 1048576 ≤ va) :
    Calls Tryd.prog 22 #[.pointer (some ⟨K.R, 0, none⟩), .int .i64 root, .int .u32 va, .bool wr] w fun e w' => e = .returned (.tuple #[.int .i64 0, .int .i64 0, .int .i64 1]) ∧ Mod No w w' := by
  have HSP := Lib.hid (fun w' => rsplit_no va w' hv)
  clear hv
  go_enter Tryd.func22, Tryd.ntmps22
  go_wp2_with fail
  refine (HSP.out _).mono ?_
  rintro e w2 ⟨rfl, rfl⟩
  go_wp2
  go_ret3
  exact ⟨rfl, Mod.refl _ _⟩

set_option maxHeartbeats 1600000 in
theorem rwalk_2 {K : RfK} {S : List Fr} (root va : Int) (wr : Bool) (w : World) (h : RfM w K S) (hv : 0 ≤ va) (hv2 : va < 1048576) (he : (entR S root (va / 16384)).2 ≠ 0) :
    Calls Tryd.prog 22 #[.pointer (some ⟨K.R, 0, none⟩), .int .i64 root, .int .u32 va, .bool wr] w fun e w' => e = .returned (.tuple #[.int .i64 0, .int .i64 0, .int .i64 (entR S root (va / 16384)).2]) ∧ Mod No w w' := by
  have HSP := Lib.hid (fun w' => rsplit_yes va w' hv hv2)
  have HF1 : Hid (∀ w', Mod No w w' → Calls Tryd.prog 54 #[.pointer (some ⟨K.R, 0, none⟩), .int .i64 root, .int .i64 (va / 16384)] w' fun e w2 => e = .returned (.tuple #[(entR S root (va / 16384)).1.val, .int .i64 (entR S root (va / 16384)).2]) ∧ Mod No w' w2) := fun w' hm => rentry_any _ _ w' (h.keptNo hm)
  generalize (entR S root (va / 16384)).2 = er at he HF1 ⊢
  generalize (entR S root (va / 16384)).1 = E1 at HF1
  obtain ⟨p1, q1, m1⟩ := E1
  have de : (er != 0) = true := bne_iff_ne.2 he
  simp only [Ent.val] at HF1
  clear he h
  go_enter Tryd.func22, Tryd.ntmps22
  go_wp2_with fail
  refine (HSP.out _).mono ?_
  rintro e w2 ⟨rfl, rfl⟩
  go_wp2_with fail
  refine (HF1.out _ (Mod.refl No w)).mono ?_
  rintro e w2 ⟨rfl, hm2⟩
  have HM := Lib.hid (hm2.alloc (.cells #[.bool p1, .bool q1, .int .i64 m1] 109))
  clear hm2
  go_wp2
  go_ret3
  exact ⟨rfl, HM.out⟩

set_option maxHeartbeats 1600000 in
theorem rwalk_3 {K : RfK} {S : List Fr} (root va : Int) (wr : Bool) (w : World) (h : RfM w K S) (hv : 0 ≤ va) (hv2 : va < 1048576) (he : (entR S root (va / 16384)).2 = 0) (hy : (entR S (entR S root (va / 16384)).1.mfn (va / 256 % 64)).2 ≠ 0) :
    Calls Tryd.prog 22 #[.pointer (some ⟨K.R, 0, none⟩), .int .i64 root, .int .u32 va, .bool wr] w fun e w' => e = .returned (.tuple #[.int .i64 0, .int .i64 0, .int .i64 (entR S (entR S root (va / 16384)).1.mfn (va / 256 % 64)).2]) ∧ Mod No w w' := by
  have HSP := Lib.hid (fun w' => rsplit_yes va w' hv hv2)
  have HF1 : Hid (∀ w', Mod No w w' → Calls Tryd.prog 54 #[.pointer (some ⟨K.R, 0, none⟩), .int .i64 root, .int .i64 (va / 16384)] w' fun e w2 => e = .returned (.tuple #[(entR S root (va / 16384)).1.val, .int .i64 (entR S root (va / 16384)).2]) ∧ Mod No w' w2) := fun w' hm => rentry_any _ _ w' (h.keptNo hm)
  have HF2 : Hid (∀ w', Mod No w w' → Calls Tryd.prog 54 #[.pointer (some ⟨K.R, 0, none⟩), .int .i64 (entR S root (va / 16384)).1.mfn, .int .i64 (va / 256 % 64)] w' fun e w2 => e = .returned (.tuple #[(entR S (entR S root (va / 16384)).1.mfn (va / 256 % 64)).1.val, .int .i64 (entR S (entR S root (va / 16384)).1.mfn (va / 256 % 64)).2]) ∧ Mod No w' w2) := fun w' hm => rentry_any _ _ w' (h.keptNo hm)
  rw [he] at HF1
  have hge := entR_ok h.ok (entR S root (va / 16384)).1.mfn (va / 256 % 64)
  generalize entR S (entR S root (va / 16384)).1.mfn (va / 256 % 64) = E2 at hge hy HF2 ⊢
  generalize (entR S root (va / 16384)).1 = E1 at HF1 HF2
  obtain ⟨p1, q1, m1⟩ := E1
  obtain ⟨⟨p2, q2, m2⟩, er⟩ := E2
  simp only [Ent.val] at hge hy HF1 HF2 ⊢
  have de : (er != 0) = true := bne_iff_ne.2 hy
  clear he h hy
  go_enter Tryd.func22, Tryd.ntmps22
  go_wp2_with fail
  refine (HSP.out _).mono ?_
  rintro e w2 ⟨rfl, rfl⟩
  go_wp2_with fail
  refine (HF1.out _ (Mod.refl No w)).mono ?_
  rintro e w2 ⟨rfl, hm2⟩
  have HM := Lib.hid (hm2.alloc (.cells #[.bool p1, .bool q1, .int .i64 m1] 109))
  clear hm2
  go_wp2_with fail
  refine (HF2.out _ HM.out).mono ?_
  rintro e w4 ⟨rfl, hm4⟩
  have HM2 := Lib.hid ((HM.out.trans hm4).alloc (.cells #[.bool p2, .bool q2, .int .i64 m2] 109))
  clear hm4 HM
  go_wp2
  go_ret3
  exact ⟨rfl, HM2.out⟩

set_option maxHeartbeats 1600000 in
theorem rwalk_4 {K : RfK} {S : List Fr} (root va : Int) (wr : Bool) (w : World) (h : RfM w K S) (hv : 0 ≤ va) (hv2 : va < 1048576) (he : (entR S root (va / 16384)).2 = 0) (hy : (entR S (entR S root (va / 16384)).1.mfn (va / 256 % 64)).2 = 0) (hw : (entR S (entR S root (va / 16384)).1.mfn (va / 256 % 64)).1.write = false) (hwr : wr = true) :
    Calls Tryd.prog 22 #[.pointer (some ⟨K.R, 0, none⟩), .int .i64 root, .int .u32 va, .bool wr] w fun e w' => e = .returned (.tuple #[.int .i64 0, .int .i64 0, .int .i64 41]) ∧ Mod No w w' := by
  have HSP := Lib.hid (fun w' => rsplit_yes va w' hv hv2)
  have HF1 : Hid (∀ w', Mod No w w' → Calls Tryd.prog 54 #[.pointer (some ⟨K.R, 0, none⟩), .int .i64 root, .int .i64 (va / 16384)] w' fun e w2 => e = .returned (.tuple #[(entR S root (va / 16384)).1.val, .int .i64 (entR S root (va / 16384)).2]) ∧ Mod No w' w2) := fun w' hm => rentry_any _ _ w' (h.keptNo hm)
  have HF2 : Hid (∀ w', Mod No w w' → Calls Tryd.prog 54 #[.pointer (some ⟨K.R, 0, none⟩), .int .i64 (entR S root (va / 16384)).1.mfn, .int .i64 (va / 256 % 64)] w' fun e w2 => e = .returned (.tuple #[(entR S (entR S root (va / 16384)).1.mfn (va / 256 % 64)).1.val, .int .i64 (entR S (entR S root (va / 16384)).1.mfn (va / 256 % 64)).2]) ∧ Mod No w' w2) := fun w' hm => rentry_any _ _ w' (h.keptNo hm)
  rw [he] at HF1
  have hge := entR_ok h.ok (entR S root (va / 16384)).1.mfn (va / 256 % 64)
  generalize entR S (entR S root (va / 16384)).1.mfn (va / 256 % 64) = E2 at hge hy hw HF2 ⊢
  generalize (entR S root (va / 16384)).1 = E1 at HF1 HF2
  obtain ⟨p1, q1, m1⟩ := E1
  obtain ⟨⟨p2, q2, m2⟩, er⟩ := E2
  simp only [Ent.val] at hge hy hw HF1 HF2 ⊢
  subst hy hw hwr
  clear he h
  go_enter Tryd.func22, Tryd.ntmps22
  go_wp2_with fail
  refine (HSP.out _).mono ?_
  rintro e w2 ⟨rfl, rfl⟩
  go_wp2_with fail
  refine (HF1.out _ (Mod.refl No w)).mono ?_
  rintro e w2 ⟨rfl, hm2⟩
  have HM := Lib.hid (hm2.alloc (.cells #[.bool p1, .bool q1, .int .i64 m1] 109))
  clear hm2
  go_wp2_with fail
  refine (HF2.out _ HM.out).mono ?_
  rintro e w4 ⟨rfl, hm4⟩
  have HM2 := Lib.hid ((HM.out.trans hm4).alloc (.cells #[.bool p2, .bool false, .int .i64 m2] 109))
  clear hm4 HM
  go_wp2
  go_ret3
  exact ⟨rfl, HM2.out⟩

set_option maxHeartbeats 1600000 in
theorem rwalk_5 {K : RfK} {S : List Fr} (root va : Int) (wr : Bool) (w : World) (h : RfM w K S) (hv : 0 ≤ va) (hv2 : va < 1048576) (he : (entR S root (va / 16384)).2 = 0) (hy : (entR S (entR S root (va / 16384)).1.mfn (va / 256 % 64)).2 = 0) (hw : wr = false ∨ (entR S (entR S root (va / 16384)).1.mfn (va / 256 % 64)).1.write = true) (hs : (S.length : Int) ≤ (entR S (entR S root (va / 16384)).1.mfn (va / 256 % 64)).1.mfn) :
    Calls Tryd.prog 22 #[.pointer (some ⟨K.R, 0, none⟩), .int .i64 root, .int .u32 va, .bool wr] w fun e w' => e = .returned (.tuple #[.int .i64 0, .int .i64 0, .int .i64 1]) ∧ Mod No w w' := by
  have HSP := Lib.hid (fun w' => rsplit_yes va w' hv hv2)
  have HF1 : Hid (∀ w', Mod No w w' → Calls Tryd.prog 54 #[.pointer (some ⟨K.R, 0, none⟩), .int .i64 root, .int .i64 (va / 16384)] w' fun e w2 => e = .returned (.tuple #[(entR S root (va / 16384)).1.val, .int .i64 (entR S root (va / 16384)).2]) ∧ Mod No w' w2) := fun w' hm => rentry_any _ _ w' (h.keptNo hm)
  have HF2 : Hid (∀ w', Mod No w w' → Calls Tryd.prog 54 #[.pointer (some ⟨K.R, 0, none⟩), .int .i64 (entR S root (va / 16384)).1.mfn, .int .i64 (va / 256 % 64)] w' fun e w2 => e = .returned (.tuple #[(entR S (entR S root (va / 16384)).1.mfn (va / 256 % 64)).1.val, .int .i64 (entR S (entR S root (va / 16384)).1.mfn (va / 256 % 64)).2]) ∧ Mod No w' w2) := fun w' hm => rentry_any _ _ w' (h.keptNo hm)
  rw [he] at HF1
  have hge := entR_ok h.ok (entR S root (va / 16384)).1.mfn (va / 256 % 64)
  generalize entR S (entR S root (va / 16384)).1.mfn (va / 256 % 64) = E2 at hge hy hw hs HF2 ⊢
  generalize (entR S root (va / 16384)).1 = E1 at HF1 HF2
  obtain ⟨p1, q1, m1⟩ := E1
  obtain ⟨⟨p2, q2, m2⟩, er⟩ := E2
  simp only [Ent.val] at hge hy hw hs HF1 HF2 ⊢
  subst hy
  have HIS : Hid (∀ w', Mod No w w' → Calls Tryd.prog 55 #[.pointer (some ⟨K.R, 0, none⟩), .int .i64 m2] w' fun e w2 => e = .returned (.bool false) ∧ w' = w2) := fun w' hm => ris_out m2 w' (h.keptNo hm) (.inr hs)
  clear he h hs
  rcases hw with rfl | rfl
  · skip
    go_enter Tryd.func22, Tryd.ntmps22
    go_wp2_with fail
    refine (HSP.out _).mono ?_
    rintro e w2 ⟨rfl, rfl⟩
    go_wp2_with fail
    refine (HF1.out _ (Mod.refl No w)).mono ?_
    rintro e w2 ⟨rfl, hm2⟩
    have HM := Lib.hid (hm2.alloc (.cells #[.bool p1, .bool q1, .int .i64 m1] 109))
    clear hm2
    go_wp2_with fail
    refine (HF2.out _ HM.out).mono ?_
    rintro e w4 ⟨rfl, hm4⟩
    have HM2 := Lib.hid ((HM.out.trans hm4).alloc (.cells #[.bool p2, .bool q2, .int .i64 m2] 109))
    clear hm4 HM
    go_wp2_with fail
    refine (HIS.out _ HM2.out).mono ?_
    rintro e w5 ⟨rfl, rfl⟩
    go_wp2
    go_ret3
    exact ⟨rfl, HM2.out⟩
  · cases wr
    · skip
      go_enter Tryd.func22, Tryd.ntmps22
      go_wp2_with fail
      refine (HSP.out _).mono ?_
      rintro e w2 ⟨rfl, rfl⟩
      go_wp2_with fail
      refine (HF1.out _ (Mod.refl No w)).mono ?_
      rintro e w2 ⟨rfl, hm2⟩
      have HM := Lib.hid (hm2.alloc (.cells #[.bool p1, .bool q1, .int .i64 m1] 109))
      clear hm2
      go_wp2_with fail
      refine (HF2.out _ HM.out).mono ?_
      rintro e w4 ⟨rfl, hm4⟩
      have HM2 := Lib.hid ((HM.out.trans hm4).alloc (.cells #[.bool p2, .bool true, .int .i64 m2] 109))
      clear hm4 HM
      go_wp2_with fail
      refine (HIS.out _ HM2.out).mono ?_
      rintro e w5 ⟨rfl, rfl⟩
      go_wp2
      go_ret3
      exact ⟨rfl, HM2.out⟩
    · skip
      go_enter Tryd.func22, Tryd.ntmps22
      go_wp2_with fail
      refine (HSP.out _).mono ?_
      rintro e w2 ⟨rfl, rfl⟩
      go_wp2_with fail
      refine (HF1.out _ (Mod.refl No w)).mono ?_
      rintro e w2 ⟨rfl, hm2⟩
      have HM := Lib.hid (hm2.alloc (.cells #[.bool p1, .bool q1, .int .i64 m1] 109))
      clear hm2
      go_wp2_with fail
      refine (HF2.out _ HM.out).mono ?_
      rintro e w4 ⟨rfl, hm4⟩
      have HM2 := Lib.hid ((HM.out.trans hm4).alloc (.cells #[.bool p2, .bool true, .int .i64 m2] 109))
      clear hm4 HM
      go_wp2_with fail
      refine (HIS.out _ HM2.out).mono ?_
      rintro e w5 ⟨rfl, rfl⟩
      go_wp2
      go_ret3
      exact ⟨rfl, HM2.out⟩

set_option maxHeartbeats 1600000 in
theorem rwalk_6 {K : RfK} {S : List Fr} (root va : Int) (wr : Bool) (w : World) (h : RfM w K S) (hv : 0 ≤ va) (hv2 : va < 1048576) (he : (entR S root (va / 16384)).2 = 0) (hy : (entR S (entR S root (va / 16384)).1.mfn (va / 256 % 64)).2 = 0) (hw : wr = false ∨ (entR S (entR S root (va / 16384)).1.mfn (va / 256 % 64)).1.write = true) (hs : (entR S (entR S root (va / 16384)).1.mfn (va / 256 % 64)).1.mfn < (S.length : Int)) :
    Calls Tryd.prog 22 #[.pointer (some ⟨K.R, 0, none⟩), .int .i64 root, .int .u32 va, .bool wr] w fun e w' => e = .returned (.tuple #[.int .i64 (entR S (entR S root (va / 16384)).1.mfn (va / 256 % 64)).1.mfn, .int .i64 (va % 256), .int .i64 0]) ∧ Mod No w w' := by
  have HSP := Lib.hid (fun w' => rsplit_yes va w' hv hv2)
  have HF1 : Hid (∀ w', Mod No w w' → Calls Tryd.prog 54 #[.pointer (some ⟨K.R, 0, none⟩), .int .i64 root, .int .i64 (va / 16384)] w' fun e w2 => e = .returned (.tuple #[(entR S root (va / 16384)).1.val, .int .i64 (entR S root (va / 16384)).2]) ∧ Mod No w' w2) := fun w' hm => rentry_any _ _ w' (h.keptNo hm)
  have HF2 : Hid (∀ w', Mod No w w' → Calls Tryd.prog 54 #[.pointer (some ⟨K.R, 0, none⟩), .int .i64 (entR S root (va / 16384)).1.mfn, .int .i64 (va / 256 % 64)] w' fun e w2 => e = .returned (.tuple #[(entR S (entR S root (va / 16384)).1.mfn (va / 256 % 64)).1.val, .int .i64 (entR S (entR S root (va / 16384)).1.mfn (va / 256 % 64)).2]) ∧ Mod No w' w2) := fun w' hm => rentry_any _ _ w' (h.keptNo hm)
  rw [he] at HF1
  have hge := entR_ok h.ok (entR S root (va / 16384)).1.mfn (va / 256 % 64)
  generalize entR S (entR S root (va / 16384)).1.mfn (va / 256 % 64) = E2 at hge hy hw hs HF2 ⊢
  generalize (entR S root (va / 16384)).1 = E1 at HF1 HF2
  obtain ⟨p1, q1, m1⟩ := E1
  obtain ⟨⟨p2, q2, m2⟩, er⟩ := E2
  simp only [Ent.val] at hge hy hw hs HF1 HF2 ⊢
  subst hy
  have HIS : Hid (∀ w', Mod No w w' → Calls Tryd.prog 55 #[.pointer (some ⟨K.R, 0, none⟩), .int .i64 m2] w' fun e w2 => e = .returned (.bool true) ∧ w' = w2) := fun w' hm => ris_in m2 w' (h.keptNo hm) hge hs
  clear he h hs
  rcases hw with rfl | rfl
  · skip
    go_enter Tryd.func22, Tryd.ntmps22
    go_wp2_with fail
    refine (HSP.out _).mono ?_
    rintro e w2 ⟨rfl, rfl⟩
    go_wp2_with fail
    refine (HF1.out _ (Mod.refl No w)).mono ?_
    rintro e w2 ⟨rfl, hm2⟩
    have HM := Lib.hid (hm2.alloc (.cells #[.bool p1, .bool q1, .int .i64 m1] 109))
    clear hm2
    go_wp2_with fail
    refine (HF2.out _ HM.out).mono ?_
    rintro e w4 ⟨rfl, hm4⟩
    have HM2 := Lib.hid ((HM.out.trans hm4).alloc (.cells #[.bool p2, .bool q2, .int .i64 m2] 109))
    clear hm4 HM
    go_wp2_with fail
    refine (HIS.out _ HM2.out).mono ?_
    rintro e w5 ⟨rfl, rfl⟩
    go_wp2
    go_ret3
    exact ⟨rfl, HM2.out⟩
  · cases wr
    · skip
      go_enter Tryd.func22, Tryd.ntmps22
      go_wp2_with fail
      refine (HSP.out _).mono ?_
      rintro e w2 ⟨rfl, rfl⟩
      go_wp2_with fail
      refine (HF1.out _ (Mod.refl No w)).mono ?_
      rintro e w2 ⟨rfl, hm2⟩
      have HM := Lib.hid (hm2.alloc (.cells #[.bool p1, .bool q1, .int .i64 m1] 109))
      clear hm2
      go_wp2_with fail
      refine (HF2.out _ HM.out).mono ?_
      rintro e w4 ⟨rfl, hm4⟩
      have HM2 := Lib.hid ((HM.out.trans hm4).alloc (.cells #[.bool p2, .bool true, .int .i64 m2] 109))
      clear hm4 HM
      go_wp2_with fail
      refine (HIS.out _ HM2.out).mono ?_
      rintro e w5 ⟨rfl, rfl⟩
      go_wp2
      go_ret3
      exact ⟨rfl, HM2.out⟩
    · skip
      go_enter Tryd.func22, Tryd.ntmps22
      go_wp2_with fail
      refine (HSP.out _).mono ?_
      rintro e w2 ⟨rfl, rfl⟩
      go_wp2_with fail
      refine (HF1.out _ (Mod.refl No w)).mono ?_
      rintro e w2 ⟨rfl, hm2⟩
      have HM := Lib.hid (hm2.alloc (.cells #[.bool p1, .bool q1, .int .i64 m1] 109))
      clear hm2
      go_wp2_with fail
      refine (HF2.out _ HM.out).mono ?_
      rintro e w4 ⟨rfl, hm4⟩
      have HM2 := Lib.hid ((HM.out.trans hm4).alloc (.cells #[.bool p2, .bool true, .int .i64 m2] 109))
      clear hm4 HM
      go_wp2_with fail
      refine (HIS.out _ HM2.out).mono ?_
      rintro e w5 ⟨rfl, rfl⟩
      go_wp2
      go_ret3
      exact ⟨rfl, HM2.out⟩

theorem walk_any {B F : Nat} {S : List Fr} (root va : Int) (wr : Bool) (w : World) (h : PhM w B F S) (h0 : 0 ≤ va) (h1 : va ≤ 4294967295) :
    Calls Tryd.prog 63 #[.pointer (some ⟨B, 0, none⟩), .int .i64 root, .int .u32 va, .bool wr] w fun e w' => e = .returned (.tuple #[.int .i64 (walkR S root va wr).1, .int .i64 (walkR S root va wr).2.1, .int .i64 (walkR S root va wr).2.2]) ∧ Mod No w w' := by
  unfold walkR
  split
  · exact walk_1 root va wr w h (by assumption) h1
  · rename_i hv
    split
    · exact walk_2 root va wr w h h0 (by omega) (by assumption)
    · rename_i he
      split
      · exact walk_3 root va wr w h h0 (by omega) (by omega) (by assumption)
      · rename_i hy
        split
        · rename_i hw
          exact walk_4 root va wr w h h0 (by omega) (by omega) (by omega) hw.2 hw.1
        · rename_i hw
          have hw' : wr = false ∨ (entR S (entR S root (va / 16384)).1.mfn (va / 256 % 64)).1.write = true := by
            cases wr with
            | false => exact .inl rfl
            | true =>
              right
              cases hq : (entR S (entR S root (va / 16384)).1.mfn (va / 256 % 64)).1.write with
              | true => rfl
              | false => exact absurd ⟨rfl, hq⟩ hw
          split
          · exact walk_5 root va wr w h h0 (by omega) (by omega) (by omega) hw' (by assumption)
          · exact walk_6 root va wr w h h0 (by omega) (by omega) (by omega) hw' (by omega)

theorem rwalk_any {K : RfK} {S : List Fr} (root va : Int) (wr : Bool) (w : World) (h : RfM w K S) (h0 : 0 ≤ va) (h1 : va ≤ 4294967295) :
    Calls Tryd.prog 22 #[.pointer (some ⟨K.R, 0, none⟩), .int .i64 root, .int .u32 va, .bool wr] w fun e w' => e = .returned (.tuple #[.int .i64 (walkR S root va wr).1, .int .i64 (walkR S root va wr).2.1, .int .i64 (walkR S root va wr).2.2]) ∧ Mod No w w' := by
  unfold walkR
  split
  · exact rwalk_1 root va wr w (by assumption)
  · rename_i hv
    split
    · exact rwalk_2 root va wr w h h0 (by omega) (by assumption)
    · rename_i he
      split
      · exact rwalk_3 root va wr w h h0 (by omega) (by omega) (by assumption)
      · rename_i hy
        split
        · rename_i hw
          exact rwalk_4 root va wr w h h0 (by omega) (by omega) (by omega) hw.2 hw.1
        · rename_i hw
          have hw' : wr = false ∨ (entR S (entR S root (va / 16384)).1.mfn (va / 256 % 64)).1.write = true := by
            cases wr with
            | false => exact .inl rfl
            | true =>
              right
              cases hq : (entR S (entR S root (va / 16384)).1.mfn (va / 256 % 64)).1.write with
              | true => rfl
              | false => exact absurd ⟨rfl, hq⟩ hw
          split
          · exact rwalk_5 root va wr w h h0 (by omega) (by omega) (by omega) hw' (by assumption)
          · exact rwalk_6 root va wr w h h0 (by omega) (by omega) (by omega) hw' (by omega)

end Go.Proofs.YtlbebneblmgdcaaDoor

/- Where n bytes of an address lie: byte by byte, and page by page. -/
namespace Go.Proofs.YtlbebneblmgdcaaDoor

/-- Byte number i's place; the first error among the first k bytes; their places. -/
def plc (S : List Fr) (root va : Int) (wr : Bool) (i : Nat) : Int × Int := ((walkR S root (va + i) wr).1, (walkR S root (va + i) wr).2.1)
def errTo (S : List Fr) (root va : Int) (wr : Bool) : Nat → Int
  | 0 => 0
  | k + 1 => if errTo S root va wr k ≠ 0 then errTo S root va wr k else (walkR S root (va + k) wr).2.2
def plcs (S : List Fr) (root va : Int) (wr : Bool) (k : Nat) : List (Int × Int) := (List.range k).map (plc S root va wr)

theorem plcs_len (S : List Fr) (root va : Int) (wr : Bool) (k : Nat) : (plcs S root va wr k).length = k := by simp [plcs]
theorem plcs_succ (S : List Fr) (root va : Int) (wr : Bool) (k : Nat) : plcs S root va wr (k + 1) = plcs S root va wr k ++ [plc S root va wr k] := by
  simp [plcs, List.range_succ]
theorem plcs_at {S : List Fr} {root va : Int} {wr : Bool} {k i : Nat} (h : i < k) : (plcs S root va wr k)[i]? = some (plc S root va wr i) := by
  unfold plcs
  rw [List.getElem?_map, List.getElem?_range h]; rfl

theorem errTo_ok {S : List Fr} {root va : Int} {wr : Bool} : ∀ {k : Nat}, errTo S root va wr k = 0 → ∀ i, i < k → (walkR S root (va + i) wr).2.2 = 0
  | 0, _, i, hi => absurd hi (Nat.not_lt_zero _)
  | k + 1, h, i, hi => by
    unfold errTo at h
    by_cases e : errTo S root va wr k = 0
    · rw [if_neg (fun q => q e)] at h
      by_cases hk : i < k
      · exact errTo_ok e i hk
      · obtain rfl : i = k := by omega
        exact h
    · rw [if_pos e] at h; exact absurd h e
theorem errTo_of {S : List Fr} {root va : Int} {wr : Bool} : ∀ {k : Nat}, (∀ i, i < k → (walkR S root (va + i) wr).2.2 = 0) → errTo S root va wr k = 0
  | 0, _ => rfl
  | k + 1, h => by
    unfold errTo
    rw [errTo_of (fun i hi => h i (by omega)), if_neg (fun q => q rfl)]
    exact h k (by omega)
/-- An error stands to the end. -/
theorem errTo_stays {S : List Fr} {root va : Int} {wr : Bool} {j : Nat} : ∀ {k : Nat}, j ≤ k → errTo S root va wr j ≠ 0 → errTo S root va wr k = errTo S root va wr j
  | 0, h, _ => by obtain rfl : j = 0 := by omega
                  rfl
  | k + 1, h, e => by
    by_cases hj : j = k + 1
    · subst hj; rfl
    · have ih := errTo_stays (k := k) (by omega) e
      rw [errTo, if_pos (by rw [ih]; exact e), ih]
theorem errTo_first {S : List Fr} {root va : Int} {wr : Bool} {j k : Nat} (hj : j < k) (h0 : errTo S root va wr j = 0) (h : (walkR S root (va + j) wr).2.2 ≠ 0) : errTo S root va wr k = (walkR S root (va + j) wr).2.2 := by
  have h1 : errTo S root va wr (j + 1) = (walkR S root (va + j) wr).2.2 := by
    rw [errTo, if_neg (fun q => q h0)]
  rw [errTo_stays (j := j + 1) (by omega) (by rw [h1]; exact h), h1]

/-- One page: one walk. -/
theorem walk_page {S : List Fr} {root a b : Int} {wr : Bool} (ha : a < 1048576) (hb : b < 1048576) (h : a / 256 = b / 256) :
    (walkR S root b wr).2.2 = (walkR S root a wr).2.2 ∧ (walkR S root b wr).1 = (walkR S root a wr).1 ∧ ((walkR S root a wr).2.2 = 0 → (walkR S root b wr).2.1 = b % 256) := by
  have e1 : b / 16384 = a / 16384 := by omega
  have e2 : b / 256 % 64 = a / 256 % 64 := by rw [h]
  unfold walkR
  rw [if_neg (show ¬ 1048576 ≤ a by omega), if_neg (show ¬ 1048576 ≤ b by omega), e1, e2]
  split
  · rename_i q; exact ⟨rfl, rfl, fun z => absurd z q⟩
  · split
    · rename_i q; exact ⟨rfl, rfl, fun z => absurd z q⟩
    · split
      · exact ⟨rfl, rfl, fun z => absurd z (by decide)⟩
      · split
        · exact ⟨rfl, rfl, fun z => absurd z (by decide)⟩
        · exact ⟨rfl, rfl, fun _ => rfl⟩

end Go.Proofs.YtlbebneblmgdcaaDoor
