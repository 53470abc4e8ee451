/- The document's Text, by how many numbers the operator takes. (Printed by wip/gen_rtext.py.) -/
import Derived.Test.YtapnodlmfapjlaaDoorRefDec2
import Derived.BigQuiet
namespace Go.Proofs.YtapnodlmfapjlaaDoor
open Go.RowKit
set_option maxRecDepth 100000

theorem jn1 (x : ByteArray) : (⟨(Lib.join ([x].map (·.data.toList)) [32]).toArray⟩ : ByteArray) = x := by
  apply ByteArray.ext
  simp [Lib.join]
theorem jn2 (x y : ByteArray) : (⟨(Lib.join ([x, y].map (·.data.toList)) [32]).toArray⟩ : ByteArray) = x ++ ⟨#[32]⟩ ++ y := by
  apply ByteArray.ext
  simp [Lib.join, List.intercalate]
theorem jn3 (x y z : ByteArray) : (⟨(Lib.join ([x, y, z].map (·.data.toList)) [32]).toArray⟩ : ByteArray) = x ++ ⟨#[32]⟩ ++ y ++ ⟨#[32]⟩ ++ z := by
  apply ByteArray.ext
  simp [Lib.join, List.intercalate]
theorem jn4 (x y z t : ByteArray) : (⟨(Lib.join ([x, y, z, t].map (·.data.toList)) [32]).toArray⟩ : ByteArray) = x ++ ⟨#[32]⟩ ++ y ++ ⟨#[32]⟩ ++ z ++ ⟨#[32]⟩ ++ t := by
  apply ByteArray.ext
  simp [Lib.join, List.intercalate]

set_option maxHeartbeats 8000000 in
theorem rtext_0 (a b c : Int) (nm : ByteArray) (hnm : nm.size ≤ 10) (bA of cap : Nat) (w : World) (ha : 0 ≤ a ∧ a ≤ 255) (hb : 0 ≤ b ∧ b ≤ 255) (hc : 0 ≤ c ∧ c ≤ 255) (hcap : 4 ≤ cap)
    (hcl : ∀ w', Mod No w w' → w'.cell? ⟨bA, of, none⟩ = some (.int .u8 0) ∧ w'.cell? ⟨bA, of + 1, none⟩ = some (.int .u8 a) ∧ w'.cell? ⟨bA, of + 2, none⟩ = some (.int .u8 b) ∧ w'.cell? ⟨bA, of + 3, none⟩ = some (.int .u8 c))
    (hidx : nameCells[0]? = some (.string nm)) :
    Calls Tryd.prog 6 #[.slice (some ⟨bA, of, none⟩) 4 cap] w fun e w' => e = .returned (.tuple #[.string ⟨(Lib.join ([nm].map (·.data.toList)) [32]).toArray⟩, .int .i64 0]) ∧ Mod No w w' := by
  obtain ⟨c0, _⟩ := hcl w (Mod.refl No w)
  have hbl : bA < w.heap.size := World.block_lt_of_cell? w _ c0
  have HCL := Lib.hid hcl
  have q5 : (1 : Int) ≤ (cap : Int) := by omega
  have HNM := Lib.hid hnm
  clear hcl hnm
  go_enter Tryd.func6, Tryd.ntmps6
  go_upto_region 6 with (fail)
  have hm1 : Mod No w (w.alloc (.cells #[.string ⟨#[104, 97, 108, 116]⟩, .string ⟨#[115, 101, 116]⟩, .string ⟨#[104, 105, 103, 104]⟩, .string ⟨#[109, 111, 118, 101]⟩, .string ⟨#[97, 100, 100]⟩, .string ⟨#[115, 117, 98]⟩, .string ⟨#[109, 117, 108]⟩, .string ⟨#[97, 110, 100]⟩, .string ⟨#[111, 114]⟩, .string ⟨#[120, 111, 114]⟩, .string ⟨#[117, 112]⟩, .string ⟨#[100, 111, 119, 110]⟩, .string ⟨#[108, 101, 115, 115]⟩, .string ⟨#[108, 111, 97, 100]⟩, .string ⟨#[98, 121, 116, 101]⟩, .string ⟨#[115, 116, 111, 114, 101]⟩, .string ⟨#[112, 117, 116]⟩, .string ⟨#[106, 117, 109, 112]⟩, .string ⟨#[122, 101, 114, 111]⟩, .string ⟨#[115, 111, 109, 101]⟩, .string ⟨#[99, 97, 108, 108]⟩] 9)) := (Mod.refl No w).alloc _
  have hB : (w.alloc (.cells #[.string ⟨#[104, 97, 108, 116]⟩, .string ⟨#[115, 101, 116]⟩, .string ⟨#[104, 105, 103, 104]⟩, .string ⟨#[109, 111, 118, 101]⟩, .string ⟨#[97, 100, 100]⟩, .string ⟨#[115, 117, 98]⟩, .string ⟨#[109, 117, 108]⟩, .string ⟨#[97, 110, 100]⟩, .string ⟨#[111, 114]⟩, .string ⟨#[120, 111, 114]⟩, .string ⟨#[117, 112]⟩, .string ⟨#[100, 111, 119, 110]⟩, .string ⟨#[108, 101, 115, 115]⟩, .string ⟨#[108, 111, 97, 100]⟩, .string ⟨#[98, 121, 116, 101]⟩, .string ⟨#[115, 116, 111, 114, 101]⟩, .string ⟨#[112, 117, 116]⟩, .string ⟨#[106, 117, 109, 112]⟩, .string ⟨#[122, 101, 114, 111]⟩, .string ⟨#[115, 111, 109, 101]⟩, .string ⟨#[99, 97, 108, 108]⟩] 9)).heap[w.heap.size]? = some (.cells nameCells.toArray 9 (0, 0)) := heap_alloc_new w _
  generalize w.alloc (.cells #[.string ⟨#[104, 97, 108, 116]⟩, .string ⟨#[115, 101, 116]⟩, .string ⟨#[104, 105, 103, 104]⟩, .string ⟨#[109, 111, 118, 101]⟩, .string ⟨#[97, 100, 100]⟩, .string ⟨#[115, 117, 98]⟩, .string ⟨#[109, 117, 108]⟩, .string ⟨#[97, 110, 100]⟩, .string ⟨#[111, 114]⟩, .string ⟨#[120, 111, 114]⟩, .string ⟨#[117, 112]⟩, .string ⟨#[100, 111, 119, 110]⟩, .string ⟨#[108, 101, 115, 115]⟩, .string ⟨#[108, 111, 97, 100]⟩, .string ⟨#[98, 121, 116, 101]⟩, .string ⟨#[115, 116, 111, 114, 101]⟩, .string ⟨#[112, 117, 116]⟩, .string ⟨#[106, 117, 109, 112]⟩, .string ⟨#[122, 101, 114, 111]⟩, .string ⟨#[115, 111, 109, 101]⟩, .string ⟨#[99, 97, 108, 108]⟩] 9) = w1 at hm1 hB ⊢
  have hN : w1.cell? ⟨w.heap.size, 0, none⟩ = some (.string nm) := (row_cell hB _).trans hidx
  have hL : w.heap.size < w1.heap.size := World.block_lt_of_cell? w1 _ hN
  generalize w.heap.size = bN at hN hL ⊢
  obtain ⟨i0, i1, i2, i3⟩ := HCL.out w1 hm1
  have hbl1 : bA < w1.heap.size := World.block_lt_of_cell? w1 _ i0
  have HM1 := Lib.hid hm1
  clear hm1 hB hidx hbl c0
  have k1 : IntKind.i64.wrap (256 * c) = 256 * c := IntWalk.i64_in _ (by omega)
  have k2 : IntKind.i64.wrap (b + 256 * c) = b + 256 * c := IntWalk.i64_in _ (by omega)
  have k3 : IntKind.i64.wrap b = b := IntWalk.i64_in _ (by omega)
  have k4 : IntKind.i64.wrap c = c := IntWalk.i64_in _ (by omega)
  have k5 : IntKind.i64.wrap a = a := IntWalk.i64_in _ (by omega)
  go_upto_region 7 with (fail)
  go_quiet (fail)
  have hm2 : Mod No w (w1.drewN nq) := HM1.out.drewN nq
  generalize w1.drewN nq = w2 at hm2 ⊢
  clear i0 i1 i2 i3 hbl1 HM1 hN hL
  obtain ⟨i0, i1, i2, i3⟩ := HCL.out w2 hm2
  have hbl2 : bA < w2.heap.size := World.block_lt_of_cell? w2 _ i0
  have HX2 := Lib.hid hm2
  clear hm2
  go_wp2
  go_ret2
  refine ⟨?_, HX2.out⟩
  rw [jn1]
  rfl

set_option maxHeartbeats 8000000 in
theorem rtext_1 (a b c : Int) (nm : ByteArray) (hnm : nm.size ≤ 10) (bA of cap : Nat) (w : World) (ha : 0 ≤ a ∧ a ≤ 255) (hb : 0 ≤ b ∧ b ≤ 255) (hc : 0 ≤ c ∧ c ≤ 255) (hcap : 4 ≤ cap)
    (hcl : ∀ w', Mod No w w' → w'.cell? ⟨bA, of, none⟩ = some (.int .u8 1) ∧ w'.cell? ⟨bA, of + 1, none⟩ = some (.int .u8 a) ∧ w'.cell? ⟨bA, of + 2, none⟩ = some (.int .u8 b) ∧ w'.cell? ⟨bA, of + 3, none⟩ = some (.int .u8 c))
    (hidx : nameCells[1]? = some (.string nm)) :
    Calls Tryd.prog 6 #[.slice (some ⟨bA, of, none⟩) 4 cap] w fun e w' => e = .returned (.tuple #[.string ⟨(Lib.join ([nm, ⟨(Lib.itoa a).toArray⟩, ⟨(Lib.itoa (b + 256 * c)).toArray⟩].map (·.data.toList)) [32]).toArray⟩, .int .i64 0]) ∧ Mod No w w' := by
  obtain ⟨c0, _⟩ := hcl w (Mod.refl No w)
  have hbl : bA < w.heap.size := World.block_lt_of_cell? w _ c0
  have HCL := Lib.hid hcl
  have q5 : (1 : Int) ≤ (cap : Int) := by omega
  have HNM := Lib.hid hnm
  clear hcl hnm
  obtain ⟨Sa, hSa⟩ : ∃ S : ByteArray, S = ⟨(Lib.itoa a).toArray⟩ := ⟨_, rfl⟩
  have HDa := Lib.hid (fun w' => rdec_any a (by omega) (by omega) w')
  rw [← hSa] at HDa ⊢
  have hla : Sa.size ≤ 65600 := by
    rw [hSa, ByteArray.size]
    simp only [List.size_toArray]
    exact itoa_len _ (by omega)
  clear hSa
  obtain ⟨Sk, hSk⟩ : ∃ S : ByteArray, S = ⟨(Lib.itoa (b + 256 * c)).toArray⟩ := ⟨_, rfl⟩
  have HDk := Lib.hid (fun w' => rdec_any (b + 256 * c) (by omega) (by omega) w')
  rw [← hSk] at HDk ⊢
  have hlk : Sk.size ≤ 65600 := by
    rw [hSk, ByteArray.size]
    simp only [List.size_toArray]
    exact itoa_len _ (by omega)
  clear hSk
  have hnm2 := HNM.out
  have z0 : ¬ 9223372036854775807 < nm.size + 1 := by omega
  have z1 : ¬ 9223372036854775807 < nm.size + 1 + Sa.size := by omega
  have z2 : ¬ 9223372036854775807 < nm.size + 1 + Sa.size + 1 := by omega
  have z3 : ¬ 9223372036854775807 < nm.size + 1 + Sa.size + 1 + Sk.size := by omega
  clear hnm2 hla hlk
  go_enter Tryd.func6, Tryd.ntmps6
  go_upto_region 6 with (fail)
  have hm1 : Mod No w (w.alloc (.cells #[.string ⟨#[104, 97, 108, 116]⟩, .string ⟨#[115, 101, 116]⟩, .string ⟨#[104, 105, 103, 104]⟩, .string ⟨#[109, 111, 118, 101]⟩, .string ⟨#[97, 100, 100]⟩, .string ⟨#[115, 117, 98]⟩, .string ⟨#[109, 117, 108]⟩, .string ⟨#[97, 110, 100]⟩, .string ⟨#[111, 114]⟩, .string ⟨#[120, 111, 114]⟩, .string ⟨#[117, 112]⟩, .string ⟨#[100, 111, 119, 110]⟩, .string ⟨#[108, 101, 115, 115]⟩, .string ⟨#[108, 111, 97, 100]⟩, .string ⟨#[98, 121, 116, 101]⟩, .string ⟨#[115, 116, 111, 114, 101]⟩, .string ⟨#[112, 117, 116]⟩, .string ⟨#[106, 117, 109, 112]⟩, .string ⟨#[122, 101, 114, 111]⟩, .string ⟨#[115, 111, 109, 101]⟩, .string ⟨#[99, 97, 108, 108]⟩] 9)) := (Mod.refl No w).alloc _
  have hB : (w.alloc (.cells #[.string ⟨#[104, 97, 108, 116]⟩, .string ⟨#[115, 101, 116]⟩, .string ⟨#[104, 105, 103, 104]⟩, .string ⟨#[109, 111, 118, 101]⟩, .string ⟨#[97, 100, 100]⟩, .string ⟨#[115, 117, 98]⟩, .string ⟨#[109, 117, 108]⟩, .string ⟨#[97, 110, 100]⟩, .string ⟨#[111, 114]⟩, .string ⟨#[120, 111, 114]⟩, .string ⟨#[117, 112]⟩, .string ⟨#[100, 111, 119, 110]⟩, .string ⟨#[108, 101, 115, 115]⟩, .string ⟨#[108, 111, 97, 100]⟩, .string ⟨#[98, 121, 116, 101]⟩, .string ⟨#[115, 116, 111, 114, 101]⟩, .string ⟨#[112, 117, 116]⟩, .string ⟨#[106, 117, 109, 112]⟩, .string ⟨#[122, 101, 114, 111]⟩, .string ⟨#[115, 111, 109, 101]⟩, .string ⟨#[99, 97, 108, 108]⟩] 9)).heap[w.heap.size]? = some (.cells nameCells.toArray 9 (0, 0)) := heap_alloc_new w _
  generalize w.alloc (.cells #[.string ⟨#[104, 97, 108, 116]⟩, .string ⟨#[115, 101, 116]⟩, .string ⟨#[104, 105, 103, 104]⟩, .string ⟨#[109, 111, 118, 101]⟩, .string ⟨#[97, 100, 100]⟩, .string ⟨#[115, 117, 98]⟩, .string ⟨#[109, 117, 108]⟩, .string ⟨#[97, 110, 100]⟩, .string ⟨#[111, 114]⟩, .string ⟨#[120, 111, 114]⟩, .string ⟨#[117, 112]⟩, .string ⟨#[100, 111, 119, 110]⟩, .string ⟨#[108, 101, 115, 115]⟩, .string ⟨#[108, 111, 97, 100]⟩, .string ⟨#[98, 121, 116, 101]⟩, .string ⟨#[115, 116, 111, 114, 101]⟩, .string ⟨#[112, 117, 116]⟩, .string ⟨#[106, 117, 109, 112]⟩, .string ⟨#[122, 101, 114, 111]⟩, .string ⟨#[115, 111, 109, 101]⟩, .string ⟨#[99, 97, 108, 108]⟩] 9) = w1 at hm1 hB ⊢
  have hN : w1.cell? ⟨w.heap.size, 1, none⟩ = some (.string nm) := (row_cell hB _).trans hidx
  have hL : w.heap.size < w1.heap.size := World.block_lt_of_cell? w1 _ hN
  generalize w.heap.size = bN at hN hL ⊢
  obtain ⟨i0, i1, i2, i3⟩ := HCL.out w1 hm1
  have hbl1 : bA < w1.heap.size := World.block_lt_of_cell? w1 _ i0
  have HM1 := Lib.hid hm1
  clear hm1 hB hidx hbl c0
  have k1 : IntKind.i64.wrap (256 * c) = 256 * c := IntWalk.i64_in _ (by omega)
  have k2 : IntKind.i64.wrap (b + 256 * c) = b + 256 * c := IntWalk.i64_in _ (by omega)
  have k3 : IntKind.i64.wrap b = b := IntWalk.i64_in _ (by omega)
  have k4 : IntKind.i64.wrap c = c := IntWalk.i64_in _ (by omega)
  have k5 : IntKind.i64.wrap a = a := IntWalk.i64_in _ (by omega)
  go_upto_region 7 with (fail)
  go_quiet (fail)
  have hm2 : Mod No w (w1.drewN nq) := HM1.out.drewN nq
  generalize w1.drewN nq = w2 at hm2 ⊢
  clear i0 i1 i2 i3 hbl1 HM1 hN hL
  obtain ⟨i0, i1, i2, i3⟩ := HCL.out w2 hm2
  have hbl2 : bA < w2.heap.size := World.block_lt_of_cell? w2 _ i0
  have HX2 := Lib.hid hm2
  clear hm2
  go_wp2_with (first | (go_at_call 16; refine (HDa.out _).mono ?_; rintro e w3 ⟨rfl, hh3⟩; clear HDa; have hm3 := HX2.out.trans hh3; clear hh3; obtain ⟨_, i1, i2, i3⟩ := HCL.out w3 hm3; have hbl3 : bA < w3.heap.size := World.block_lt_of_cell? w3 _ i1; have HX3 := Lib.hid hm3; clear hm3) | (go_at_call 16; refine (HDk.out _).mono ?_; rintro e w4 ⟨rfl, hh4⟩; clear HDk; have hm4 := HX3.out.trans hh4; clear hh4; have HX4 := Lib.hid hm4; clear hm4))
  go_ret2
  refine ⟨?_, HX4.out⟩
  rw [jn3]
  rfl

set_option maxHeartbeats 8000000 in
theorem rtext_2 (a b c : Int) (nm : ByteArray) (hnm : nm.size ≤ 10) (bA of cap : Nat) (w : World) (ha : 0 ≤ a ∧ a ≤ 255) (hb : 0 ≤ b ∧ b ≤ 255) (hc : 0 ≤ c ∧ c ≤ 255) (hcap : 4 ≤ cap)
    (hcl : ∀ w', Mod No w w' → w'.cell? ⟨bA, of, none⟩ = some (.int .u8 2) ∧ w'.cell? ⟨bA, of + 1, none⟩ = some (.int .u8 a) ∧ w'.cell? ⟨bA, of + 2, none⟩ = some (.int .u8 b) ∧ w'.cell? ⟨bA, of + 3, none⟩ = some (.int .u8 c))
    (hidx : nameCells[2]? = some (.string nm)) :
    Calls Tryd.prog 6 #[.slice (some ⟨bA, of, none⟩) 4 cap] w fun e w' => e = .returned (.tuple #[.string ⟨(Lib.join ([nm, ⟨(Lib.itoa a).toArray⟩, ⟨(Lib.itoa (b + 256 * c)).toArray⟩].map (·.data.toList)) [32]).toArray⟩, .int .i64 0]) ∧ Mod No w w' := by
  obtain ⟨c0, _⟩ := hcl w (Mod.refl No w)
  have hbl : bA < w.heap.size := World.block_lt_of_cell? w _ c0
  have HCL := Lib.hid hcl
  have q5 : (1 : Int) ≤ (cap : Int) := by omega
  have HNM := Lib.hid hnm
  clear hcl hnm
  obtain ⟨Sa, hSa⟩ : ∃ S : ByteArray, S = ⟨(Lib.itoa a).toArray⟩ := ⟨_, rfl⟩
  have HDa := Lib.hid (fun w' => rdec_any a (by omega) (by omega) w')
  rw [← hSa] at HDa ⊢
  have hla : Sa.size ≤ 65600 := by
    rw [hSa, ByteArray.size]
    simp only [List.size_toArray]
    exact itoa_len _ (by omega)
  clear hSa
  obtain ⟨Sk, hSk⟩ : ∃ S : ByteArray, S = ⟨(Lib.itoa (b + 256 * c)).toArray⟩ := ⟨_, rfl⟩
  have HDk := Lib.hid (fun w' => rdec_any (b + 256 * c) (by omega) (by omega) w')
  rw [← hSk] at HDk ⊢
  have hlk : Sk.size ≤ 65600 := by
    rw [hSk, ByteArray.size]
    simp only [List.size_toArray]
    exact itoa_len _ (by omega)
  clear hSk
  have hnm2 := HNM.out
  have z0 : ¬ 9223372036854775807 < nm.size + 1 := by omega
  have z1 : ¬ 9223372036854775807 < nm.size + 1 + Sa.size := by omega
  have z2 : ¬ 9223372036854775807 < nm.size + 1 + Sa.size + 1 := by omega
  have z3 : ¬ 9223372036854775807 < nm.size + 1 + Sa.size + 1 + Sk.size := by omega
  clear hnm2 hla hlk
  go_enter Tryd.func6, Tryd.ntmps6
  go_upto_region 6 with (fail)
  have hm1 : Mod No w (w.alloc (.cells #[.string ⟨#[104, 97, 108, 116]⟩, .string ⟨#[115, 101, 116]⟩, .string ⟨#[104, 105, 103, 104]⟩, .string ⟨#[109, 111, 118, 101]⟩, .string ⟨#[97, 100, 100]⟩, .string ⟨#[115, 117, 98]⟩, .string ⟨#[109, 117, 108]⟩, .string ⟨#[97, 110, 100]⟩, .string ⟨#[111, 114]⟩, .string ⟨#[120, 111, 114]⟩, .string ⟨#[117, 112]⟩, .string ⟨#[100, 111, 119, 110]⟩, .string ⟨#[108, 101, 115, 115]⟩, .string ⟨#[108, 111, 97, 100]⟩, .string ⟨#[98, 121, 116, 101]⟩, .string ⟨#[115, 116, 111, 114, 101]⟩, .string ⟨#[112, 117, 116]⟩, .string ⟨#[106, 117, 109, 112]⟩, .string ⟨#[122, 101, 114, 111]⟩, .string ⟨#[115, 111, 109, 101]⟩, .string ⟨#[99, 97, 108, 108]⟩] 9)) := (Mod.refl No w).alloc _
  have hB : (w.alloc (.cells #[.string ⟨#[104, 97, 108, 116]⟩, .string ⟨#[115, 101, 116]⟩, .string ⟨#[104, 105, 103, 104]⟩, .string ⟨#[109, 111, 118, 101]⟩, .string ⟨#[97, 100, 100]⟩, .string ⟨#[115, 117, 98]⟩, .string ⟨#[109, 117, 108]⟩, .string ⟨#[97, 110, 100]⟩, .string ⟨#[111, 114]⟩, .string ⟨#[120, 111, 114]⟩, .string ⟨#[117, 112]⟩, .string ⟨#[100, 111, 119, 110]⟩, .string ⟨#[108, 101, 115, 115]⟩, .string ⟨#[108, 111, 97, 100]⟩, .string ⟨#[98, 121, 116, 101]⟩, .string ⟨#[115, 116, 111, 114, 101]⟩, .string ⟨#[112, 117, 116]⟩, .string ⟨#[106, 117, 109, 112]⟩, .string ⟨#[122, 101, 114, 111]⟩, .string ⟨#[115, 111, 109, 101]⟩, .string ⟨#[99, 97, 108, 108]⟩] 9)).heap[w.heap.size]? = some (.cells nameCells.toArray 9 (0, 0)) := heap_alloc_new w _
  generalize w.alloc (.cells #[.string ⟨#[104, 97, 108, 116]⟩, .string ⟨#[115, 101, 116]⟩, .string ⟨#[104, 105, 103, 104]⟩, .string ⟨#[109, 111, 118, 101]⟩, .string ⟨#[97, 100, 100]⟩, .string ⟨#[115, 117, 98]⟩, .string ⟨#[109, 117, 108]⟩, .string ⟨#[97, 110, 100]⟩, .string ⟨#[111, 114]⟩, .string ⟨#[120, 111, 114]⟩, .string ⟨#[117, 112]⟩, .string ⟨#[100, 111, 119, 110]⟩, .string ⟨#[108, 101, 115, 115]⟩, .string ⟨#[108, 111, 97, 100]⟩, .string ⟨#[98, 121, 116, 101]⟩, .string ⟨#[115, 116, 111, 114, 101]⟩, .string ⟨#[112, 117, 116]⟩, .string ⟨#[106, 117, 109, 112]⟩, .string ⟨#[122, 101, 114, 111]⟩, .string ⟨#[115, 111, 109, 101]⟩, .string ⟨#[99, 97, 108, 108]⟩] 9) = w1 at hm1 hB ⊢
  have hN : w1.cell? ⟨w.heap.size, 2, none⟩ = some (.string nm) := (row_cell hB _).trans hidx
  have hL : w.heap.size < w1.heap.size := World.block_lt_of_cell? w1 _ hN
  generalize w.heap.size = bN at hN hL ⊢
  obtain ⟨i0, i1, i2, i3⟩ := HCL.out w1 hm1
  have hbl1 : bA < w1.heap.size := World.block_lt_of_cell? w1 _ i0
  have HM1 := Lib.hid hm1
  clear hm1 hB hidx hbl c0
  have k1 : IntKind.i64.wrap (256 * c) = 256 * c := IntWalk.i64_in _ (by omega)
  have k2 : IntKind.i64.wrap (b + 256 * c) = b + 256 * c := IntWalk.i64_in _ (by omega)
  have k3 : IntKind.i64.wrap b = b := IntWalk.i64_in _ (by omega)
  have k4 : IntKind.i64.wrap c = c := IntWalk.i64_in _ (by omega)
  have k5 : IntKind.i64.wrap a = a := IntWalk.i64_in _ (by omega)
  go_upto_region 7 with (fail)
  go_quiet (fail)
  have hm2 : Mod No w (w1.drewN nq) := HM1.out.drewN nq
  generalize w1.drewN nq = w2 at hm2 ⊢
  clear i0 i1 i2 i3 hbl1 HM1 hN hL
  obtain ⟨i0, i1, i2, i3⟩ := HCL.out w2 hm2
  have hbl2 : bA < w2.heap.size := World.block_lt_of_cell? w2 _ i0
  have HX2 := Lib.hid hm2
  clear hm2
  go_wp2_with (first | (go_at_call 16; refine (HDa.out _).mono ?_; rintro e w3 ⟨rfl, hh3⟩; clear HDa; have hm3 := HX2.out.trans hh3; clear hh3; obtain ⟨_, i1, i2, i3⟩ := HCL.out w3 hm3; have hbl3 : bA < w3.heap.size := World.block_lt_of_cell? w3 _ i1; have HX3 := Lib.hid hm3; clear hm3) | (go_at_call 16; refine (HDk.out _).mono ?_; rintro e w4 ⟨rfl, hh4⟩; clear HDk; have hm4 := HX3.out.trans hh4; clear hh4; have HX4 := Lib.hid hm4; clear hm4))
  go_ret2
  refine ⟨?_, HX4.out⟩
  rw [jn3]
  rfl

set_option maxHeartbeats 8000000 in
theorem rtext_3 (a b c : Int) (nm : ByteArray) (hnm : nm.size ≤ 10) (bA of cap : Nat) (w : World) (ha : 0 ≤ a ∧ a ≤ 255) (hb : 0 ≤ b ∧ b ≤ 255) (hc : 0 ≤ c ∧ c ≤ 255) (hcap : 4 ≤ cap)
    (hcl : ∀ w', Mod No w w' → w'.cell? ⟨bA, of, none⟩ = some (.int .u8 3) ∧ w'.cell? ⟨bA, of + 1, none⟩ = some (.int .u8 a) ∧ w'.cell? ⟨bA, of + 2, none⟩ = some (.int .u8 b) ∧ w'.cell? ⟨bA, of + 3, none⟩ = some (.int .u8 c))
    (hidx : nameCells[3]? = some (.string nm)) :
    Calls Tryd.prog 6 #[.slice (some ⟨bA, of, none⟩) 4 cap] w fun e w' => e = .returned (.tuple #[.string ⟨(Lib.join ([nm, ⟨(Lib.itoa a).toArray⟩, ⟨(Lib.itoa b).toArray⟩].map (·.data.toList)) [32]).toArray⟩, .int .i64 0]) ∧ Mod No w w' := by
  obtain ⟨c0, _⟩ := hcl w (Mod.refl No w)
  have hbl : bA < w.heap.size := World.block_lt_of_cell? w _ c0
  have HCL := Lib.hid hcl
  have q5 : (1 : Int) ≤ (cap : Int) := by omega
  have HNM := Lib.hid hnm
  clear hcl hnm
  obtain ⟨Sa, hSa⟩ : ∃ S : ByteArray, S = ⟨(Lib.itoa a).toArray⟩ := ⟨_, rfl⟩
  have HDa := Lib.hid (fun w' => rdec_any a (by omega) (by omega) w')
  rw [← hSa] at HDa ⊢
  have hla : Sa.size ≤ 65600 := by
    rw [hSa, ByteArray.size]
    simp only [List.size_toArray]
    exact itoa_len _ (by omega)
  clear hSa
  obtain ⟨Sb, hSb⟩ : ∃ S : ByteArray, S = ⟨(Lib.itoa b).toArray⟩ := ⟨_, rfl⟩
  have HDb := Lib.hid (fun w' => rdec_any b (by omega) (by omega) w')
  rw [← hSb] at HDb ⊢
  have hlb : Sb.size ≤ 65600 := by
    rw [hSb, ByteArray.size]
    simp only [List.size_toArray]
    exact itoa_len _ (by omega)
  clear hSb
  have hnm2 := HNM.out
  have z0 : ¬ 9223372036854775807 < nm.size + 1 := by omega
  have z1 : ¬ 9223372036854775807 < nm.size + 1 + Sa.size := by omega
  have z2 : ¬ 9223372036854775807 < nm.size + 1 + Sa.size + 1 := by omega
  have z3 : ¬ 9223372036854775807 < nm.size + 1 + Sa.size + 1 + Sb.size := by omega
  clear hnm2 hla hlb
  go_enter Tryd.func6, Tryd.ntmps6
  go_upto_region 6 with (fail)
  have hm1 : Mod No w (w.alloc (.cells #[.string ⟨#[104, 97, 108, 116]⟩, .string ⟨#[115, 101, 116]⟩, .string ⟨#[104, 105, 103, 104]⟩, .string ⟨#[109, 111, 118, 101]⟩, .string ⟨#[97, 100, 100]⟩, .string ⟨#[115, 117, 98]⟩, .string ⟨#[109, 117, 108]⟩, .string ⟨#[97, 110, 100]⟩, .string ⟨#[111, 114]⟩, .string ⟨#[120, 111, 114]⟩, .string ⟨#[117, 112]⟩, .string ⟨#[100, 111, 119, 110]⟩, .string ⟨#[108, 101, 115, 115]⟩, .string ⟨#[108, 111, 97, 100]⟩, .string ⟨#[98, 121, 116, 101]⟩, .string ⟨#[115, 116, 111, 114, 101]⟩, .string ⟨#[112, 117, 116]⟩, .string ⟨#[106, 117, 109, 112]⟩, .string ⟨#[122, 101, 114, 111]⟩, .string ⟨#[115, 111, 109, 101]⟩, .string ⟨#[99, 97, 108, 108]⟩] 9)) := (Mod.refl No w).alloc _
  have hB : (w.alloc (.cells #[.string ⟨#[104, 97, 108, 116]⟩, .string ⟨#[115, 101, 116]⟩, .string ⟨#[104, 105, 103, 104]⟩, .string ⟨#[109, 111, 118, 101]⟩, .string ⟨#[97, 100, 100]⟩, .string ⟨#[115, 117, 98]⟩, .string ⟨#[109, 117, 108]⟩, .string ⟨#[97, 110, 100]⟩, .string ⟨#[111, 114]⟩, .string ⟨#[120, 111, 114]⟩, .string ⟨#[117, 112]⟩, .string ⟨#[100, 111, 119, 110]⟩, .string ⟨#[108, 101, 115, 115]⟩, .string ⟨#[108, 111, 97, 100]⟩, .string ⟨#[98, 121, 116, 101]⟩, .string ⟨#[115, 116, 111, 114, 101]⟩, .string ⟨#[112, 117, 116]⟩, .string ⟨#[106, 117, 109, 112]⟩, .string ⟨#[122, 101, 114, 111]⟩, .string ⟨#[115, 111, 109, 101]⟩, .string ⟨#[99, 97, 108, 108]⟩] 9)).heap[w.heap.size]? = some (.cells nameCells.toArray 9 (0, 0)) := heap_alloc_new w _
  generalize w.alloc (.cells #[.string ⟨#[104, 97, 108, 116]⟩, .string ⟨#[115, 101, 116]⟩, .string ⟨#[104, 105, 103, 104]⟩, .string ⟨#[109, 111, 118, 101]⟩, .string ⟨#[97, 100, 100]⟩, .string ⟨#[115, 117, 98]⟩, .string ⟨#[109, 117, 108]⟩, .string ⟨#[97, 110, 100]⟩, .string ⟨#[111, 114]⟩, .string ⟨#[120, 111, 114]⟩, .string ⟨#[117, 112]⟩, .string ⟨#[100, 111, 119, 110]⟩, .string ⟨#[108, 101, 115, 115]⟩, .string ⟨#[108, 111, 97, 100]⟩, .string ⟨#[98, 121, 116, 101]⟩, .string ⟨#[115, 116, 111, 114, 101]⟩, .string ⟨#[112, 117, 116]⟩, .string ⟨#[106, 117, 109, 112]⟩, .string ⟨#[122, 101, 114, 111]⟩, .string ⟨#[115, 111, 109, 101]⟩, .string ⟨#[99, 97, 108, 108]⟩] 9) = w1 at hm1 hB ⊢
  have hN : w1.cell? ⟨w.heap.size, 3, none⟩ = some (.string nm) := (row_cell hB _).trans hidx
  have hL : w.heap.size < w1.heap.size := World.block_lt_of_cell? w1 _ hN
  generalize w.heap.size = bN at hN hL ⊢
  obtain ⟨i0, i1, i2, i3⟩ := HCL.out w1 hm1
  have hbl1 : bA < w1.heap.size := World.block_lt_of_cell? w1 _ i0
  have HM1 := Lib.hid hm1
  clear hm1 hB hidx hbl c0
  have k1 : IntKind.i64.wrap (256 * c) = 256 * c := IntWalk.i64_in _ (by omega)
  have k2 : IntKind.i64.wrap (b + 256 * c) = b + 256 * c := IntWalk.i64_in _ (by omega)
  have k3 : IntKind.i64.wrap b = b := IntWalk.i64_in _ (by omega)
  have k4 : IntKind.i64.wrap c = c := IntWalk.i64_in _ (by omega)
  have k5 : IntKind.i64.wrap a = a := IntWalk.i64_in _ (by omega)
  go_upto_region 7 with (fail)
  go_quiet (fail)
  have hm2 : Mod No w (w1.drewN nq) := HM1.out.drewN nq
  generalize w1.drewN nq = w2 at hm2 ⊢
  clear i0 i1 i2 i3 hbl1 HM1 hN hL
  obtain ⟨i0, i1, i2, i3⟩ := HCL.out w2 hm2
  have hbl2 : bA < w2.heap.size := World.block_lt_of_cell? w2 _ i0
  have HX2 := Lib.hid hm2
  clear hm2
  have hS2 : (fun w' : World => w'.cell? ⟨bA, of + 1, none⟩ = some (.int .u8 a) ∧ w'.cell? ⟨bA, of + 2, none⟩ = some (.int .u8 b) ∧ w'.cell? ⟨bA, of + 3, none⟩ = some (.int .u8 c)) w2 := ⟨i1, i2, i3⟩
  go_upto_region 12 with (fail)
  go_region_held3 (fun w' : World => w'.cell? ⟨bA, of + 1, none⟩ = some (.int .u8 a) ∧ w'.cell? ⟨bA, of + 2, none⟩ = some (.int .u8 b) ∧ w'.cell? ⟨bA, of + 3, none⟩ = some (.int .u8 c)) (first | exact hS2 | assumption | go_keep) (first
    | (go_at_call 16; refine (HDa.out _).mono ?_; rintro e w3 ⟨rfl, hh3⟩; clear HDa; have hm3 := HX2.out.drew.trans hh3; clear hh3; have hS3 : (fun w' : World => w'.cell? ⟨bA, of + 1, none⟩ = some (.int .u8 a) ∧ w'.cell? ⟨bA, of + 2, none⟩ = some (.int .u8 b) ∧ w'.cell? ⟨bA, of + 3, none⟩ = some (.int .u8 c)) w3 := (HCL.out w3 hm3).2; have HX3 := Lib.hid hm3; clear hm3)
    | (go_at_call 16; refine (HDb.out _).mono ?_; rintro e w4 ⟨rfl, hh4⟩; clear HDb; have hm4 := HX3.out.trans hh4; clear hh4; have hS4 : (fun w' : World => w'.cell? ⟨bA, of + 1, none⟩ = some (.int .u8 a) ∧ w'.cell? ⟨bA, of + 2, none⟩ = some (.int .u8 b) ∧ w'.cell? ⟨bA, of + 3, none⟩ = some (.int .u8 c)) w4 := (HCL.out w4 hm4).2; have HX4 := Lib.hid hm4; clear hm4))
  all_goals (go_wp2)
  go_ret2
  refine ⟨?_, HX4.out⟩
  rw [jn3]
  rfl

set_option maxHeartbeats 8000000 in
theorem rtext_17 (a b c : Int) (nm : ByteArray) (hnm : nm.size ≤ 10) (bA of cap : Nat) (w : World) (ha : 0 ≤ a ∧ a ≤ 255) (hb : 0 ≤ b ∧ b ≤ 255) (hc : 0 ≤ c ∧ c ≤ 255) (hcap : 4 ≤ cap)
    (hcl : ∀ w', Mod No w w' → w'.cell? ⟨bA, of, none⟩ = some (.int .u8 17) ∧ w'.cell? ⟨bA, of + 1, none⟩ = some (.int .u8 a) ∧ w'.cell? ⟨bA, of + 2, none⟩ = some (.int .u8 b) ∧ w'.cell? ⟨bA, of + 3, none⟩ = some (.int .u8 c))
    (hidx : nameCells[17]? = some (.string nm)) :
    Calls Tryd.prog 6 #[.slice (some ⟨bA, of, none⟩) 4 cap] w fun e w' => e = .returned (.tuple #[.string ⟨(Lib.join ([nm, ⟨(Lib.itoa a).toArray⟩].map (·.data.toList)) [32]).toArray⟩, .int .i64 0]) ∧ Mod No w w' := by
  obtain ⟨c0, _⟩ := hcl w (Mod.refl No w)
  have hbl : bA < w.heap.size := World.block_lt_of_cell? w _ c0
  have HCL := Lib.hid hcl
  have q5 : (1 : Int) ≤ (cap : Int) := by omega
  have HNM := Lib.hid hnm
  clear hcl hnm
  obtain ⟨Sa, hSa⟩ : ∃ S : ByteArray, S = ⟨(Lib.itoa a).toArray⟩ := ⟨_, rfl⟩
  have HDa := Lib.hid (fun w' => rdec_any a (by omega) (by omega) w')
  rw [← hSa] at HDa ⊢
  have hla : Sa.size ≤ 65600 := by
    rw [hSa, ByteArray.size]
    simp only [List.size_toArray]
    exact itoa_len _ (by omega)
  clear hSa
  have hnm2 := HNM.out
  have z0 : ¬ 9223372036854775807 < nm.size + 1 := by omega
  have z1 : ¬ 9223372036854775807 < nm.size + 1 + Sa.size := by omega
  clear hnm2 hla
  go_enter Tryd.func6, Tryd.ntmps6
  go_upto_region 6 with (fail)
  have hm1 : Mod No w (w.alloc (.cells #[.string ⟨#[104, 97, 108, 116]⟩, .string ⟨#[115, 101, 116]⟩, .string ⟨#[104, 105, 103, 104]⟩, .string ⟨#[109, 111, 118, 101]⟩, .string ⟨#[97, 100, 100]⟩, .string ⟨#[115, 117, 98]⟩, .string ⟨#[109, 117, 108]⟩, .string ⟨#[97, 110, 100]⟩, .string ⟨#[111, 114]⟩, .string ⟨#[120, 111, 114]⟩, .string ⟨#[117, 112]⟩, .string ⟨#[100, 111, 119, 110]⟩, .string ⟨#[108, 101, 115, 115]⟩, .string ⟨#[108, 111, 97, 100]⟩, .string ⟨#[98, 121, 116, 101]⟩, .string ⟨#[115, 116, 111, 114, 101]⟩, .string ⟨#[112, 117, 116]⟩, .string ⟨#[106, 117, 109, 112]⟩, .string ⟨#[122, 101, 114, 111]⟩, .string ⟨#[115, 111, 109, 101]⟩, .string ⟨#[99, 97, 108, 108]⟩] 9)) := (Mod.refl No w).alloc _
  have hB : (w.alloc (.cells #[.string ⟨#[104, 97, 108, 116]⟩, .string ⟨#[115, 101, 116]⟩, .string ⟨#[104, 105, 103, 104]⟩, .string ⟨#[109, 111, 118, 101]⟩, .string ⟨#[97, 100, 100]⟩, .string ⟨#[115, 117, 98]⟩, .string ⟨#[109, 117, 108]⟩, .string ⟨#[97, 110, 100]⟩, .string ⟨#[111, 114]⟩, .string ⟨#[120, 111, 114]⟩, .string ⟨#[117, 112]⟩, .string ⟨#[100, 111, 119, 110]⟩, .string ⟨#[108, 101, 115, 115]⟩, .string ⟨#[108, 111, 97, 100]⟩, .string ⟨#[98, 121, 116, 101]⟩, .string ⟨#[115, 116, 111, 114, 101]⟩, .string ⟨#[112, 117, 116]⟩, .string ⟨#[106, 117, 109, 112]⟩, .string ⟨#[122, 101, 114, 111]⟩, .string ⟨#[115, 111, 109, 101]⟩, .string ⟨#[99, 97, 108, 108]⟩] 9)).heap[w.heap.size]? = some (.cells nameCells.toArray 9 (0, 0)) := heap_alloc_new w _
  generalize w.alloc (.cells #[.string ⟨#[104, 97, 108, 116]⟩, .string ⟨#[115, 101, 116]⟩, .string ⟨#[104, 105, 103, 104]⟩, .string ⟨#[109, 111, 118, 101]⟩, .string ⟨#[97, 100, 100]⟩, .string ⟨#[115, 117, 98]⟩, .string ⟨#[109, 117, 108]⟩, .string ⟨#[97, 110, 100]⟩, .string ⟨#[111, 114]⟩, .string ⟨#[120, 111, 114]⟩, .string ⟨#[117, 112]⟩, .string ⟨#[100, 111, 119, 110]⟩, .string ⟨#[108, 101, 115, 115]⟩, .string ⟨#[108, 111, 97, 100]⟩, .string ⟨#[98, 121, 116, 101]⟩, .string ⟨#[115, 116, 111, 114, 101]⟩, .string ⟨#[112, 117, 116]⟩, .string ⟨#[106, 117, 109, 112]⟩, .string ⟨#[122, 101, 114, 111]⟩, .string ⟨#[115, 111, 109, 101]⟩, .string ⟨#[99, 97, 108, 108]⟩] 9) = w1 at hm1 hB ⊢
  have hN : w1.cell? ⟨w.heap.size, 17, none⟩ = some (.string nm) := (row_cell hB _).trans hidx
  have hL : w.heap.size < w1.heap.size := World.block_lt_of_cell? w1 _ hN
  generalize w.heap.size = bN at hN hL ⊢
  obtain ⟨i0, i1, i2, i3⟩ := HCL.out w1 hm1
  have hbl1 : bA < w1.heap.size := World.block_lt_of_cell? w1 _ i0
  have HM1 := Lib.hid hm1
  clear hm1 hB hidx hbl c0
  have k1 : IntKind.i64.wrap (256 * c) = 256 * c := IntWalk.i64_in _ (by omega)
  have k2 : IntKind.i64.wrap (b + 256 * c) = b + 256 * c := IntWalk.i64_in _ (by omega)
  have k3 : IntKind.i64.wrap b = b := IntWalk.i64_in _ (by omega)
  have k4 : IntKind.i64.wrap c = c := IntWalk.i64_in _ (by omega)
  have k5 : IntKind.i64.wrap a = a := IntWalk.i64_in _ (by omega)
  go_upto_region 7 with (fail)
  go_quiet (fail)
  have hm2 : Mod No w (w1.drewN nq) := HM1.out.drewN nq
  generalize w1.drewN nq = w2 at hm2 ⊢
  clear i0 i1 i2 i3 hbl1 HM1 hN hL
  obtain ⟨i0, i1, i2, i3⟩ := HCL.out w2 hm2
  have hbl2 : bA < w2.heap.size := World.block_lt_of_cell? w2 _ i0
  have HX2 := Lib.hid hm2
  clear hm2
  go_wp2_with (first | (go_at_call 16; refine (HDa.out _).mono ?_; rintro e w3 ⟨rfl, hh3⟩; clear HDa; have hm3 := HX2.out.trans hh3; clear hh3; have HX3 := Lib.hid hm3; clear hm3))
  go_ret2
  refine ⟨?_, HX3.out⟩
  rw [jn2]
  rfl

set_option maxHeartbeats 8000000 in
theorem rtext_20 (a b c : Int) (nm : ByteArray) (hnm : nm.size ≤ 10) (bA of cap : Nat) (w : World) (ha : 0 ≤ a ∧ a ≤ 255) (hb : 0 ≤ b ∧ b ≤ 255) (hc : 0 ≤ c ∧ c ≤ 255) (hcap : 4 ≤ cap)
    (hcl : ∀ w', Mod No w w' → w'.cell? ⟨bA, of, none⟩ = some (.int .u8 20) ∧ w'.cell? ⟨bA, of + 1, none⟩ = some (.int .u8 a) ∧ w'.cell? ⟨bA, of + 2, none⟩ = some (.int .u8 b) ∧ w'.cell? ⟨bA, of + 3, none⟩ = some (.int .u8 c))
    (hidx : nameCells[20]? = some (.string nm)) :
    Calls Tryd.prog 6 #[.slice (some ⟨bA, of, none⟩) 4 cap] w fun e w' => e = .returned (.tuple #[.string ⟨(Lib.join ([nm, ⟨(Lib.itoa (b + 256 * c)).toArray⟩].map (·.data.toList)) [32]).toArray⟩, .int .i64 0]) ∧ Mod No w w' := by
  obtain ⟨c0, _⟩ := hcl w (Mod.refl No w)
  have hbl : bA < w.heap.size := World.block_lt_of_cell? w _ c0
  have HCL := Lib.hid hcl
  have q5 : (1 : Int) ≤ (cap : Int) := by omega
  have HNM := Lib.hid hnm
  clear hcl hnm
  obtain ⟨Sk, hSk⟩ : ∃ S : ByteArray, S = ⟨(Lib.itoa (b + 256 * c)).toArray⟩ := ⟨_, rfl⟩
  have HDk := Lib.hid (fun w' => rdec_any (b + 256 * c) (by omega) (by omega) w')
  rw [← hSk] at HDk ⊢
  have hlk : Sk.size ≤ 65600 := by
    rw [hSk, ByteArray.size]
    simp only [List.size_toArray]
    exact itoa_len _ (by omega)
  clear hSk
  have hnm2 := HNM.out
  have z0 : ¬ 9223372036854775807 < nm.size + 1 := by omega
  have z1 : ¬ 9223372036854775807 < nm.size + 1 + Sk.size := by omega
  clear hnm2 hlk
  go_enter Tryd.func6, Tryd.ntmps6
  go_upto_region 6 with (fail)
  have hm1 : Mod No w (w.alloc (.cells #[.string ⟨#[104, 97, 108, 116]⟩, .string ⟨#[115, 101, 116]⟩, .string ⟨#[104, 105, 103, 104]⟩, .string ⟨#[109, 111, 118, 101]⟩, .string ⟨#[97, 100, 100]⟩, .string ⟨#[115, 117, 98]⟩, .string ⟨#[109, 117, 108]⟩, .string ⟨#[97, 110, 100]⟩, .string ⟨#[111, 114]⟩, .string ⟨#[120, 111, 114]⟩, .string ⟨#[117, 112]⟩, .string ⟨#[100, 111, 119, 110]⟩, .string ⟨#[108, 101, 115, 115]⟩, .string ⟨#[108, 111, 97, 100]⟩, .string ⟨#[98, 121, 116, 101]⟩, .string ⟨#[115, 116, 111, 114, 101]⟩, .string ⟨#[112, 117, 116]⟩, .string ⟨#[106, 117, 109, 112]⟩, .string ⟨#[122, 101, 114, 111]⟩, .string ⟨#[115, 111, 109, 101]⟩, .string ⟨#[99, 97, 108, 108]⟩] 9)) := (Mod.refl No w).alloc _
  have hB : (w.alloc (.cells #[.string ⟨#[104, 97, 108, 116]⟩, .string ⟨#[115, 101, 116]⟩, .string ⟨#[104, 105, 103, 104]⟩, .string ⟨#[109, 111, 118, 101]⟩, .string ⟨#[97, 100, 100]⟩, .string ⟨#[115, 117, 98]⟩, .string ⟨#[109, 117, 108]⟩, .string ⟨#[97, 110, 100]⟩, .string ⟨#[111, 114]⟩, .string ⟨#[120, 111, 114]⟩, .string ⟨#[117, 112]⟩, .string ⟨#[100, 111, 119, 110]⟩, .string ⟨#[108, 101, 115, 115]⟩, .string ⟨#[108, 111, 97, 100]⟩, .string ⟨#[98, 121, 116, 101]⟩, .string ⟨#[115, 116, 111, 114, 101]⟩, .string ⟨#[112, 117, 116]⟩, .string ⟨#[106, 117, 109, 112]⟩, .string ⟨#[122, 101, 114, 111]⟩, .string ⟨#[115, 111, 109, 101]⟩, .string ⟨#[99, 97, 108, 108]⟩] 9)).heap[w.heap.size]? = some (.cells nameCells.toArray 9 (0, 0)) := heap_alloc_new w _
  generalize w.alloc (.cells #[.string ⟨#[104, 97, 108, 116]⟩, .string ⟨#[115, 101, 116]⟩, .string ⟨#[104, 105, 103, 104]⟩, .string ⟨#[109, 111, 118, 101]⟩, .string ⟨#[97, 100, 100]⟩, .string ⟨#[115, 117, 98]⟩, .string ⟨#[109, 117, 108]⟩, .string ⟨#[97, 110, 100]⟩, .string ⟨#[111, 114]⟩, .string ⟨#[120, 111, 114]⟩, .string ⟨#[117, 112]⟩, .string ⟨#[100, 111, 119, 110]⟩, .string ⟨#[108, 101, 115, 115]⟩, .string ⟨#[108, 111, 97, 100]⟩, .string ⟨#[98, 121, 116, 101]⟩, .string ⟨#[115, 116, 111, 114, 101]⟩, .string ⟨#[112, 117, 116]⟩, .string ⟨#[106, 117, 109, 112]⟩, .string ⟨#[122, 101, 114, 111]⟩, .string ⟨#[115, 111, 109, 101]⟩, .string ⟨#[99, 97, 108, 108]⟩] 9) = w1 at hm1 hB ⊢
  have hN : w1.cell? ⟨w.heap.size, 20, none⟩ = some (.string nm) := (row_cell hB _).trans hidx
  have hL : w.heap.size < w1.heap.size := World.block_lt_of_cell? w1 _ hN
  generalize w.heap.size = bN at hN hL ⊢
  obtain ⟨i0, i1, i2, i3⟩ := HCL.out w1 hm1
  have hbl1 : bA < w1.heap.size := World.block_lt_of_cell? w1 _ i0
  have HM1 := Lib.hid hm1
  clear hm1 hB hidx hbl c0
  have k1 : IntKind.i64.wrap (256 * c) = 256 * c := IntWalk.i64_in _ (by omega)
  have k2 : IntKind.i64.wrap (b + 256 * c) = b + 256 * c := IntWalk.i64_in _ (by omega)
  have k3 : IntKind.i64.wrap b = b := IntWalk.i64_in _ (by omega)
  have k4 : IntKind.i64.wrap c = c := IntWalk.i64_in _ (by omega)
  have k5 : IntKind.i64.wrap a = a := IntWalk.i64_in _ (by omega)
  go_upto_region 7 with (fail)
  go_quiet (fail)
  have hm2 : Mod No w (w1.drewN nq) := HM1.out.drewN nq
  generalize w1.drewN nq = w2 at hm2 ⊢
  clear i0 i1 i2 i3 hbl1 HM1 hN hL
  obtain ⟨i0, i1, i2, i3⟩ := HCL.out w2 hm2
  have hbl2 : bA < w2.heap.size := World.block_lt_of_cell? w2 _ i0
  have HX2 := Lib.hid hm2
  clear hm2
  go_wp2_with (first | (go_at_call 16; refine (HDk.out _).mono ?_; rintro e w3 ⟨rfl, hh3⟩; clear HDk; have hm3 := HX2.out.trans hh3; clear hh3; have HX3 := Lib.hid hm3; clear hm3))
  go_ret2
  refine ⟨?_, HX3.out⟩
  rw [jn2]
  rfl

end Go.Proofs.YtapnodlmfapjlaaDoor
