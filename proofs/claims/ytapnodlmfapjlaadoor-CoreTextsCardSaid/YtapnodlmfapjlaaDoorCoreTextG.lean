/- core.Text, by how many numbers the operator takes. (Printed by wip/gen_text.py.) -/
import Derived.Test.YtapnodlmfapjlaaDoorCoreText
namespace Go.Proofs.YtapnodlmfapjlaaDoor
open Go.RowKit
set_option maxRecDepth 100000

theorem itoa_c (n : Int) (h0 : -9223372036854775808 ≤ n) (h1 : n ≤ 9223372036854775807) (w : World) (htab : Lib.TabIs Tryd.prog w "internal/strconv.uint64pow10" .u64 Lib.pow10Tab) :
    Calls Tryd.prog 12 #[.int .i64 n] w fun e w' => e = .returned (.string ⟨(Lib.itoa n).toArray⟩) ∧ Mod No w w' := by
  refine (Tryd.strconv_Itoa n h0 h1 w htab).mono ?_
  rintro e w' ⟨rfl, k, os, rfl⟩
  exact ⟨rfl, ⟨rfl, rfl, rfl, by show w.heap.size ≤ (w.heap ++ os).size; simp, fun j hj _ => by
    show (w.heap ++ os)[j]? = w.heap[j]?
    rw [Array.getElem?_append_left hj]⟩⟩

theorem own_at {w : World} {g b n c : Nat} {t : TypeId} {xs : List Value} (h : w.ownsRow g t 1 (.slice (some ⟨b, 0, none⟩) n c) n xs) : n ≤ c ∧ ∀ (j : Nat) x, xs[j]? = some x → w.cell? ⟨b, 0 + j, none⟩ = some x := by
  rcases h.2 with ⟨e, _⟩ | ⟨b', c', cur, e, hb, hr, hc, r⟩
  · cases e
  · cases e
    refine ⟨hc, fun j x hj => ?_⟩
    have := h.cells (g := b) rfl j x hj
    rw [Addr.add_lit] at this
    exact this

/-- What stands behind an append onto the call's own row of texts; a row of another type is kept. -/
theorem app_str2 {a w w' : World} {g b bC n c : Nat} {t tC : TypeId} {v' : Value} {xs ys lC : List Value} (hm : Mod No a w) (ho : w.ownsRow g t 1 (.slice (some ⟨b, 0, none⟩) n c) n ys) (hC : w.heap[bC]? = some (.cells lC.toArray tC (0, 0))) (ht : t ≠ tC) (hg : a.heap.size ≤ g) (hv : g ≤ b)
    (hown : w'.ownsRow g t 1 v' (n + 1) xs) (hgr : w.grownBy w' (Value.slice (some ⟨b, 0, none⟩) n c).ownBlock) :
    Mod No a w' ∧ w'.heap[bC]? = some (.cells lC.toArray tC (0, 0)) ∧ ∃ b' c', v' = .slice (some ⟨b', 0, none⟩) (n + 1) c' ∧ g ≤ b' ∧ b' < w'.heap.size ∧ n + 1 ≤ c' ∧ ∀ (j : Nat) x, xs[j]? = some x → w'.cell? ⟨b', 0 + j, none⟩ = some x := by
  obtain ⟨h1, h2⟩ := app_str hm hg (.inr ⟨b, rfl, hv⟩) hown hgr
  refine ⟨h1, ?_, h2⟩
  rcases ho.2 with ⟨e, _⟩ | ⟨b', c', cur, e, hb, hr, _⟩
  · cases e
  · cases e
    exact (hgr.block bC (lt_of_blk hC) (fun e => by
      have e : bC = b := Option.some.inj e
      subst e
      rw [hr] at hC
      cases hC
      exact ht rfl)).trans hC

theorem dec_len : ∀ (m u : Nat), u ≤ m → (Lib.decDigits u).length ≤ u + 1
  | 0, u, h => by
    obtain rfl : u = 0 := by omega
    unfold Lib.decDigits
    simp
  | m + 1, u, h => by
    unfold Lib.decDigits
    split
    · simp
    · rw [List.length_append, List.length_singleton]
      have := dec_len m (u / 10) (by omega)
      omega
theorem itoa_len (n : Int) (h : -32768 ≤ n ∧ n ≤ 65535) : (Lib.itoa n).length ≤ 65600 := by
  unfold Lib.itoa
  split
  · have := dec_len n.natAbs n.natAbs (Nat.le_refl _)
    rw [List.length_cons]
    omega
  · have := dec_len n.toNat n.toNat (Nat.le_refl _)
    omega

def farR (k : Int) : Int := if k < 32768 then k else k - 65536
theorem far_any (o a b c : Int) (w : World) (hb : 0 ≤ b ∧ b ≤ 255) (hc : 0 ≤ c ∧ c ≤ 255) : Calls Tryd.prog 14 #[.agg #[.int .u8 o, .int .u8 a, .int .u8 b, .int .u8 c]] w fun e w' => e = .returned (.int .i64 (farR (b + 256 * c))) ∧ Mod No w w' := by
  have hw : IntKind.i16.wrap (b + 256 * c) = farR (b + 256 * c) := by
    unfold farR
    split
    · exact IntWalk.i16_in _ (by omega)
    · simp [IntKind.wrap, IntKind.bits, IntKind.signed]; omega
  have hr : -32768 ≤ farR (b + 256 * c) ∧ farR (b + 256 * c) ≤ 32767 := by unfold farR; split <;> omega
  have HK := Lib.hid (fun w' => kk_any o a b c w' hb hc)
  generalize farR (b + 256 * c) = f at hw hr ⊢
  obtain ⟨hr1, hr2⟩ := hr
  go_enter Tryd.func14, Tryd.ntmps14
  go_wp2_with (go_at_call 13; refine (HK.out _).mono ?_; rintro e w2 ⟨rfl, h2⟩)
  go_ret
  exact ⟨rfl, ((Mod.refl No w).alloc _).trans h2⟩
theorem farR_range (b c : Int) (hb : 0 ≤ b ∧ b ≤ 255) (hc : 0 ≤ c ∧ c ≤ 255) : -32768 ≤ farR (b + 256 * c) ∧ farR (b + 256 * c) ≤ 32767 := by unfold farR; split <;> omega

set_option maxHeartbeats 8000000 in
theorem text_n0 (o : Int) (ho : 0 ≤ o ∧ o ≤ 20) (hn8 : ¬ o = 18) (hn9 : ¬ o = 19) (a b c R : Int) (nm : ByteArray) (hnm : nm.size ≤ 10) (bA cap : Nat) (w : World) (ha : 0 ≤ a ∧ a ≤ 255) (hb : 0 ≤ b ∧ b ≤ 255) (hc : 0 ≤ c ∧ c ≤ 255) (hcap : 4 ≤ cap)
    (hcl : ∀ w', Mod No w w' → w'.cell? ⟨bA, 0, none⟩ = some (.int .u8 o) ∧ w'.cell? ⟨bA, 1, none⟩ = some (.int .u8 a) ∧ w'.cell? ⟨bA, 2, none⟩ = some (.int .u8 b) ∧ w'.cell? ⟨bA, 3, none⟩ = some (.int .u8 c))
    (hidx : ∀ w, (Instr.index 37 (.agg nameCells.toArray) (.int .u8 o)).run Tryd.prog w = .ok (.string nm) w)
    (hsh : ∀ w, Calls Tryd.prog 11 #[.agg #[.int .u8 o, .int .u8 a, .int .u8 b, .int .u8 c]] w fun e w' => e = .returned (.agg #[.int .i64 R, .int .i64 0, .bool false]) ∧ Mod No w w')
    (htab : ∀ w', Mod No w w' → Lib.TabIs Tryd.prog w' "internal/strconv.uint64pow10" .u64 Lib.pow10Tab) :
    Calls Tryd.prog 5 #[.slice (some ⟨bA, 0, none⟩) 4 cap] w fun e w' => e = .returned (.tuple #[.string ⟨(Lib.join ([nm].map (·.data.toList)) [32]).toArray⟩, .int .i64 0]) ∧ Mod No w w' := by
  obtain ⟨c0, c1, c2, c3⟩ := hcl w (Mod.refl No w)
  have hbl : bA < w.heap.size := World.block_lt_of_cell? w _ c0
  have HCL := Lib.hid hcl
  have HSHP := Lib.hid hsh
  have HTAB := Lib.hid htab
  have HNM := Lib.hid hnm
  have q1 : (2 : Int) ≤ (cap : Int) := by omega
  have q2 : (3 : Int) ≤ (cap : Int) := by omega
  have q3 : (4 : Int) ≤ (cap : Int) := by omega
  have q4 : cap ≠ 1 := by omega
  have q5 : (1 : Int) ≤ (cap : Int) := by omega
  clear hcl hsh htab hnm
  have ho20 : ¬ 20 < o := by omega
  have e18 : (o == 18) = false := beq_eq_false_iff_ne.2 hn8
  have e19 : (o == 19) = false := beq_eq_false_iff_ne.2 hn9
  go_enter Tryd.func5, Tryd.ntmps5
  go_upto_region 3 with (fail)
  go_region
  have hm1 : Mod No w (w.alloc (.cells #[.int .u8 o, .int .u8 a, .int .u8 b, .int .u8 c] 36)).drew := ((Mod.refl No w).alloc _).drew
  have hB : (w.alloc (.cells #[.int .u8 o, .int .u8 a, .int .u8 b, .int .u8 c] 36)).drew.heap[w.heap.size]? = some (.cells ([.int .u8 o, .int .u8 a, .int .u8 b, .int .u8 c] : List Value).toArray 36 (0, 0)) := heap_alloc_new w _
  generalize (w.alloc (.cells #[.int .u8 o, .int .u8 a, .int .u8 b, .int .u8 c] 36)).drew = w1 at hm1 hB ⊢
  generalize w.heap.size = bB at hB ⊢
  have HM1 := Lib.hid hm1
  have HB := Lib.hid hB
  have i0 : w1.cell? ⟨bB, 0, none⟩ = some (.int .u8 o) := row_cell hB 0
  clear hm1 hB c0 c1 c2 c3 hbl
  go_upto_region 6 with (fail)
  have hS1 : (fun w' : World => w'.cell? ⟨bB, 0, none⟩ = some (.int .u8 o)) w1 := i0
  go_region_held3 (fun w' : World => w'.cell? ⟨bB, 0, none⟩ = some (.int .u8 o)) (first | exact hS1 | assumption | go_keep) (first
    | (go_at_call 10; refine (names_any _).mono ?_; rintro e w2 ⟨rfl, hm2⟩; have hS2 : (fun w' : World => w'.cell? ⟨bB, 0, none⟩ = some (.int .u8 o)) w2 := row_cell (((Mod.refl No w1).drew.trans hm2).blk HB.out (fun q => q)) 0; have HM2 := Lib.hid ((Mod.refl No w1).drew.trans hm2); clear hm2))
  have ho3 : (w2.alloc (.cells #[.string nm] 9)).ownsRow w2.heap.size 9 1 (.slice (some ⟨w2.heap.size, 0, none⟩) 1 1) 1 [.string nm] := ⟨rfl, .inr ⟨w2.heap.size, 1, #[.string nm], rfl, Nat.le_refl _, heap_alloc_new w2 _, Nat.le_refl _, by decide, rfl, rfl⟩⟩
  have hm3 : Mod No w1 (w2.alloc (.cells #[.string nm] 9)) := HM2.out.alloc _
  have hg3 : w2.heap.size < (w2.alloc (.cells #[.string nm] 9)).heap.size := by simp
  have hg1 : w1.heap.size ≤ w2.heap.size := HM2.out.size
  generalize w2.alloc (.cells #[.string nm] 9) = w3 at ho3 hm3 hg3 ⊢
  generalize w2.heap.size = g at ho3 hg3 hg1 ⊢
  have HO3 := Lib.hid ho3
  have HM3 := Lib.hid hm3
  have HG3 := Lib.hid hg3
  have HG1 := Lib.hid hg1
  have j0 : w3.cell? ⟨bB, 0, none⟩ = some (.int .u8 o) := row_cell (hm3.blk HB.out (fun q => q)) 0
  have j1 : w3.cell? ⟨bB, 1, none⟩ = some (.int .u8 a) := row_cell (hm3.blk HB.out (fun q => q)) 1
  have j2 : w3.cell? ⟨bB, 2, none⟩ = some (.int .u8 b) := row_cell (hm3.blk HB.out (fun q => q)) 2
  have j3 : w3.cell? ⟨bB, 3, none⟩ = some (.int .u8 c) := row_cell (hm3.blk HB.out (fun q => q)) 3
  clear ho3 hm3 hg3 i0 hS1 hidx HM2 hg1
  go_wp2_with (go_at_call 11; refine (HSHP.out _).mono ?_; rintro e w4 ⟨rfl, hm4⟩; have HM4 := Lib.hid (HM3.out.trans hm4); have HO4 := Lib.hid (own_kept HO3.out hm4 (fun _ _ q => q)); have HG4 := Lib.hid (Nat.lt_of_lt_of_le HG3.out hm4.size); clear hm4)
  obtain ⟨u0, hu, hu0, hu1, hu2⟩ := info_parts infoStr
  have hsz : (w4.alloc (.cells #[.int .i64 R, .int .i64 0, .bool false] 41)).heap[w4.heap.size]? = some (.cells ([.int .i64 R, .int .i64 0, .bool false] : List Value).toArray 41 (0, 0)) := heap_alloc_new w4 _
  have hm5 : Mod No w1 (w4.alloc (.cells #[.int .i64 R, .int .i64 0, .bool false] 41)) := HM4.out.alloc _
  have ho5 := own_kept HO4.out ((Mod.refl No w4).alloc (.cells #[.int .i64 R, .int .i64 0, .bool false] 41)) (fun _ _ q => q)
  have hl5 : g < (w4.alloc (.cells #[.int .i64 R, .int .i64 0, .bool false] 41)).heap.size := by have := HG4.out; simp; omega
  generalize w4.alloc (.cells #[.int .i64 R, .int .i64 0, .bool false] 41) = w5 at hsz hm5 ho5 hl5 ⊢
  generalize w4.heap.size = bC at hsz ⊢
  have HMs0 := Lib.hid hm5
  have HCs0 := Lib.hid hsz
  have HOs0 := Lib.hid ho5
  have HLs0 := Lib.hid hl5
  have HBs0 : Hid (g ≤ g) := Nat.le_refl _
  clear hm5 hsz ho5 hl5 HM4 HO4 HG4 HM3 HO3 HG3 j0 j1 j2 j3
  refine wp_loop_rounds 1 ?_
  rw [rounds_succ]
  have j0 : w5.cell? ⟨bB, 0, none⟩ = some (.int .u8 o) := row_cell (HMs0.out.blk HB.out (fun q => q)) 0
  have j1 : w5.cell? ⟨bB, 1, none⟩ = some (.int .u8 a) := row_cell (HMs0.out.blk HB.out (fun q => q)) 1
  have j2 : w5.cell? ⟨bB, 2, none⟩ = some (.int .u8 b) := row_cell (HMs0.out.blk HB.out (fun q => q)) 2
  have j3 : w5.cell? ⟨bB, 3, none⟩ = some (.int .u8 c) := row_cell (HMs0.out.blk HB.out (fun q => q)) 3
  have HKK := Lib.hid (fun w' => kk_any o a b c w' hb hc)
  go_wp2_with (first
    | (go_at_call 13; refine (HKK.out _).mono ?_; rintro e yk ⟨rfl, hmyk⟩; have HMs1 := Lib.hid (HMs0.out.trans hmyk); have HOs1 := Lib.hid (own_kept HOs0.out hmyk (fun _ _ q => q)); have HCs1 := Lib.hid (hmyk.blk HCs0.out (fun q => q)); have HLs1 := Lib.hid (Nat.lt_of_lt_of_le HLs0.out hmyk.size); have HBs1 := Lib.hid HBs0.out; have lyk0 : yk.cell? ⟨bB, 0, none⟩ = some (.int .u8 o) := row_cell (HMs1.out.blk HB.out (fun q => q)) 0; have myk : yk.cell? ⟨bC, 2, none⟩ = some (.bool false) := row_cell HCs1.out 2; clear hmyk))
  obtain ⟨hcc, hxx⟩ := own_at HOs1.out
  have hjn := Tryd.strings_Join g 0 1 [nm] ⟨#[32]⟩ yk (fun j x hj => by
    match j with
    | 0 => obtain rfl : _ = x := Option.some.inj hj; exact hxx 0 _ rfl
    | j + 1 => simp at hj) HLs1.out (by simp) hcc (by
      have h1 := HNM.out
      have h1b := Lib.size_eq nm
      simp [Lib.join]
      omega)
  refine hjn.mono ?_
  rintro e w10 ⟨rfl, hb10⟩
  go_wp2
  go_ret2
  exact ⟨rfl, HM1.out.trans (HMs1.out.trans (Mod.of_below hb10))⟩

set_option maxHeartbeats 8000000 in
theorem text_n1k (o : Int) (ho : 0 ≤ o ∧ o ≤ 20) (hn8 : ¬ o = 18) (hn9 : ¬ o = 19) (a b c R : Int) (nm : ByteArray) (hnm : nm.size ≤ 10) (bA cap : Nat) (w : World) (ha : 0 ≤ a ∧ a ≤ 255) (hb : 0 ≤ b ∧ b ≤ 255) (hc : 0 ≤ c ∧ c ≤ 255) (hcap : 4 ≤ cap)
    (hcl : ∀ w', Mod No w w' → w'.cell? ⟨bA, 0, none⟩ = some (.int .u8 o) ∧ w'.cell? ⟨bA, 1, none⟩ = some (.int .u8 a) ∧ w'.cell? ⟨bA, 2, none⟩ = some (.int .u8 b) ∧ w'.cell? ⟨bA, 3, none⟩ = some (.int .u8 c))
    (hidx : ∀ w, (Instr.index 37 (.agg nameCells.toArray) (.int .u8 o)).run Tryd.prog w = .ok (.string nm) w)
    (hsh : ∀ w, Calls Tryd.prog 11 #[.agg #[.int .u8 o, .int .u8 a, .int .u8 b, .int .u8 c]] w fun e w' => e = .returned (.agg #[.int .i64 R, .int .i64 1, .bool true]) ∧ Mod No w w')
    (htab : ∀ w', Mod No w w' → Lib.TabIs Tryd.prog w' "internal/strconv.uint64pow10" .u64 Lib.pow10Tab) :
    Calls Tryd.prog 5 #[.slice (some ⟨bA, 0, none⟩) 4 cap] w fun e w' => e = .returned (.tuple #[.string ⟨(Lib.join ([nm, ⟨(Lib.itoa a).toArray⟩, ⟨(Lib.itoa (b + 256 * c)).toArray⟩].map (·.data.toList)) [32]).toArray⟩, .int .i64 0]) ∧ Mod No w w' := by
  obtain ⟨c0, c1, c2, c3⟩ := hcl w (Mod.refl No w)
  have hbl : bA < w.heap.size := World.block_lt_of_cell? w _ c0
  have HCL := Lib.hid hcl
  have HSHP := Lib.hid hsh
  have HTAB := Lib.hid htab
  have HNM := Lib.hid hnm
  have q1 : (2 : Int) ≤ (cap : Int) := by omega
  have q2 : (3 : Int) ≤ (cap : Int) := by omega
  have q3 : (4 : Int) ≤ (cap : Int) := by omega
  have q4 : cap ≠ 1 := by omega
  have q5 : (1 : Int) ≤ (cap : Int) := by omega
  clear hcl hsh htab hnm
  have ho20 : ¬ 20 < o := by omega
  have e18 : (o == 18) = false := beq_eq_false_iff_ne.2 hn8
  have e19 : (o == 19) = false := beq_eq_false_iff_ne.2 hn9
  go_enter Tryd.func5, Tryd.ntmps5
  go_upto_region 3 with (fail)
  go_region
  have hm1 : Mod No w (w.alloc (.cells #[.int .u8 o, .int .u8 a, .int .u8 b, .int .u8 c] 36)).drew := ((Mod.refl No w).alloc _).drew
  have hB : (w.alloc (.cells #[.int .u8 o, .int .u8 a, .int .u8 b, .int .u8 c] 36)).drew.heap[w.heap.size]? = some (.cells ([.int .u8 o, .int .u8 a, .int .u8 b, .int .u8 c] : List Value).toArray 36 (0, 0)) := heap_alloc_new w _
  generalize (w.alloc (.cells #[.int .u8 o, .int .u8 a, .int .u8 b, .int .u8 c] 36)).drew = w1 at hm1 hB ⊢
  generalize w.heap.size = bB at hB ⊢
  have HM1 := Lib.hid hm1
  have HB := Lib.hid hB
  have i0 : w1.cell? ⟨bB, 0, none⟩ = some (.int .u8 o) := row_cell hB 0
  clear hm1 hB c0 c1 c2 c3 hbl
  go_upto_region 6 with (fail)
  have hS1 : (fun w' : World => w'.cell? ⟨bB, 0, none⟩ = some (.int .u8 o)) w1 := i0
  go_region_held3 (fun w' : World => w'.cell? ⟨bB, 0, none⟩ = some (.int .u8 o)) (first | exact hS1 | assumption | go_keep) (first
    | (go_at_call 10; refine (names_any _).mono ?_; rintro e w2 ⟨rfl, hm2⟩; have hS2 : (fun w' : World => w'.cell? ⟨bB, 0, none⟩ = some (.int .u8 o)) w2 := row_cell (((Mod.refl No w1).drew.trans hm2).blk HB.out (fun q => q)) 0; have HM2 := Lib.hid ((Mod.refl No w1).drew.trans hm2); clear hm2))
  have ho3 : (w2.alloc (.cells #[.string nm] 9)).ownsRow w2.heap.size 9 1 (.slice (some ⟨w2.heap.size, 0, none⟩) 1 1) 1 [.string nm] := ⟨rfl, .inr ⟨w2.heap.size, 1, #[.string nm], rfl, Nat.le_refl _, heap_alloc_new w2 _, Nat.le_refl _, by decide, rfl, rfl⟩⟩
  have hm3 : Mod No w1 (w2.alloc (.cells #[.string nm] 9)) := HM2.out.alloc _
  have hg3 : w2.heap.size < (w2.alloc (.cells #[.string nm] 9)).heap.size := by simp
  have hg1 : w1.heap.size ≤ w2.heap.size := HM2.out.size
  generalize w2.alloc (.cells #[.string nm] 9) = w3 at ho3 hm3 hg3 ⊢
  generalize w2.heap.size = g at ho3 hg3 hg1 ⊢
  have HO3 := Lib.hid ho3
  have HM3 := Lib.hid hm3
  have HG3 := Lib.hid hg3
  have HG1 := Lib.hid hg1
  have j0 : w3.cell? ⟨bB, 0, none⟩ = some (.int .u8 o) := row_cell (hm3.blk HB.out (fun q => q)) 0
  have j1 : w3.cell? ⟨bB, 1, none⟩ = some (.int .u8 a) := row_cell (hm3.blk HB.out (fun q => q)) 1
  have j2 : w3.cell? ⟨bB, 2, none⟩ = some (.int .u8 b) := row_cell (hm3.blk HB.out (fun q => q)) 2
  have j3 : w3.cell? ⟨bB, 3, none⟩ = some (.int .u8 c) := row_cell (hm3.blk HB.out (fun q => q)) 3
  clear ho3 hm3 hg3 i0 hS1 hidx HM2 hg1
  go_wp2_with (go_at_call 11; refine (HSHP.out _).mono ?_; rintro e w4 ⟨rfl, hm4⟩; have HM4 := Lib.hid (HM3.out.trans hm4); have HO4 := Lib.hid (own_kept HO3.out hm4 (fun _ _ q => q)); have HG4 := Lib.hid (Nat.lt_of_lt_of_le HG3.out hm4.size); clear hm4)
  obtain ⟨u0, hu, hu0, hu1, hu2⟩ := info_parts infoStr
  have hsz : (w4.alloc (.cells #[.int .i64 R, .int .i64 1, .bool true] 41)).heap[w4.heap.size]? = some (.cells ([.int .i64 R, .int .i64 1, .bool true] : List Value).toArray 41 (0, 0)) := heap_alloc_new w4 _
  have hm5 : Mod No w1 (w4.alloc (.cells #[.int .i64 R, .int .i64 1, .bool true] 41)) := HM4.out.alloc _
  have ho5 := own_kept HO4.out ((Mod.refl No w4).alloc (.cells #[.int .i64 R, .int .i64 1, .bool true] 41)) (fun _ _ q => q)
  have hl5 : g < (w4.alloc (.cells #[.int .i64 R, .int .i64 1, .bool true] 41)).heap.size := by have := HG4.out; simp; omega
  generalize w4.alloc (.cells #[.int .i64 R, .int .i64 1, .bool true] 41) = w5 at hsz hm5 ho5 hl5 ⊢
  generalize w4.heap.size = bC at hsz ⊢
  have HMs0 := Lib.hid hm5
  have HCs0 := Lib.hid hsz
  have HOs0 := Lib.hid ho5
  have HLs0 := Lib.hid hl5
  have HBs0 : Hid (g ≤ g) := Nat.le_refl _
  clear hm5 hsz ho5 hl5 HM4 HO4 HG4 HM3 HO3 HG3 j0 j1 j2 j3
  refine wp_loop_rounds 2 ?_
  rw [rounds_succ]
  have a0 : w5.cell? ⟨bA, 1, none⟩ = some (.int .u8 a) := (HCL.out _ (HM1.out.trans HMs0.out)).2.1
  go_wp2_with (first
    | (go_at_call 12; refine (itoa_c a (by omega) (by omega) _ (HTAB.out _ (HM1.out.trans HMs0.out))).mono ?_; rintro e y0 ⟨rfl, hmy0⟩; have HMy0 := Lib.hid (HMs0.out.trans hmy0); have HOy0 := Lib.hid (own_kept HOs0.out hmy0 (fun _ _ q => q)); have HCy0 := Lib.hid (hmy0.blk HCs0.out (fun q => q)); have HLy0 := Lib.hid (Nat.lt_of_lt_of_le HLs0.out hmy0.size); clear hmy0)
    | (at_builtin; refine wpList_append_own _ rfl (.tmp 46) (.tmp 50) 39 rfl g 9 u0 (.string ⟨#[]⟩) 1 16 Tryd.underlying39 hu hu0 hu1 hu2 rfl (by decide) (.slice (some ⟨g, 0, none⟩) 1 1) 1 _ rfl (own_kept HOy0.out ((Mod.refl No _).alloc _) (fun _ _ q => q)) ⟨_, 0, none⟩ 1 1 [.string ⟨(Lib.itoa a).toArray⟩] rfl (by simp) (fun j u hj => by rw [Addr.add_lit, Nat.zero_add]; exact (row_cell (heap_alloc_new _ (.cells #[.string ⟨(Lib.itoa a).toArray⟩] 9)) j).trans hj) (by simp [Value.oneCell']) (by unfold maxLen; omega) (by omega) (by have h1 := HLy0.out; have h2 := HBs0.out; simp; omega) ?_; intro v0 z0 hown0 hgr0 _; obtain ⟨hmz0, hcz0, bz0, cz0, rfl, hbz0, hlz0, _, hx0⟩ := app_str2 (HMy0.out.alloc _) (own_kept HOy0.out ((Mod.refl No _).alloc _) (fun _ _ q => q)) (blk_alloc HCy0.out _) (by decide) HG1.out HBs0.out hown0 hgr0; have HMs1 := Lib.hid hmz0; have HCs1 := Lib.hid hcz0; have HOs1 := Lib.hid hown0; have HLs1 := Lib.hid hlz0; have HBs1 := Lib.hid hbz0; clear hmz0 hcz0 hown0 hlz0 hbz0 hgr0 hx0))
  clear a0
  rw [rounds_succ]
  have j0 : z0.cell? ⟨bB, 0, none⟩ = some (.int .u8 o) := row_cell (HMs1.out.blk HB.out (fun q => q)) 0
  have j1 : z0.cell? ⟨bB, 1, none⟩ = some (.int .u8 a) := row_cell (HMs1.out.blk HB.out (fun q => q)) 1
  have j2 : z0.cell? ⟨bB, 2, none⟩ = some (.int .u8 b) := row_cell (HMs1.out.blk HB.out (fun q => q)) 2
  have j3 : z0.cell? ⟨bB, 3, none⟩ = some (.int .u8 c) := row_cell (HMs1.out.blk HB.out (fun q => q)) 3
  have HKK := Lib.hid (fun w' => kk_any o a b c w' hb hc)
  go_wp2_with (first
    | (go_at_call 13; refine (HKK.out _).mono ?_; rintro e yk ⟨rfl, hmyk⟩; have HMs2 := Lib.hid (HMs1.out.trans hmyk); have HOs2 := Lib.hid (own_kept HOs1.out hmyk (fun _ _ q => q)); have HCs2 := Lib.hid (hmyk.blk HCs1.out (fun q => q)); have HLs2 := Lib.hid (Nat.lt_of_lt_of_le HLs1.out hmyk.size); have HBs2 := Lib.hid HBs1.out; have lyk0 : yk.cell? ⟨bB, 0, none⟩ = some (.int .u8 o) := row_cell (HMs2.out.blk HB.out (fun q => q)) 0; have myk : yk.cell? ⟨bC, 2, none⟩ = some (.bool true) := row_cell HCs2.out 2; clear hmyk)
    | (go_at_call 12; refine (itoa_c (b + 256 * c) (by omega) (by omega) _ (HTAB.out _ (HM1.out.trans HMs2.out))).mono ?_; rintro e yi ⟨rfl, hmyi⟩; have HMs3 := Lib.hid (HMs2.out.trans hmyi); have HOs3 := Lib.hid (own_kept HOs2.out hmyi (fun _ _ q => q)); have HCs3 := Lib.hid (hmyi.blk HCs2.out (fun q => q)); have HLs3 := Lib.hid (Nat.lt_of_lt_of_le HLs2.out hmyi.size); have HBs3 := Lib.hid HBs2.out; clear hmyi)
    | (at_builtin; refine wpList_append_own _ rfl (.tmp 68) (.tmp 71) 39 rfl g 9 u0 (.string ⟨#[]⟩) 1 16 Tryd.underlying39 hu hu0 hu1 hu2 rfl (by decide) (.slice (some ⟨bz0, 0, none⟩) 2 cz0) 2 _ rfl (own_kept HOs3.out ((Mod.refl No _).alloc _) (fun _ _ q => q)) ⟨_, 0, none⟩ 1 1 [.string ⟨(Lib.itoa (b + 256 * c)).toArray⟩] rfl (by simp) (fun j u hj => by rw [Addr.add_lit, Nat.zero_add]; exact (row_cell (heap_alloc_new _ (.cells #[.string ⟨(Lib.itoa (b + 256 * c)).toArray⟩] 9)) j).trans hj) (by simp [Value.oneCell']) (by unfold maxLen; omega) (by omega) (by have h1 := HLs3.out; have h2 := HBs3.out; simp; omega) ?_; intro vk zk hownk hgrk _; obtain ⟨hmzk, hczk, bzk, czk, rfl, hbzk, hlzk, _, hxk⟩ := app_str2 (HMs3.out.alloc _) (own_kept HOs3.out ((Mod.refl No _).alloc _) (fun _ _ q => q)) (blk_alloc HCs3.out _) (by decide) HG1.out HBs3.out hownk hgrk; have HMs4 := Lib.hid hmzk; have HOs4 := Lib.hid hownk; have HLs4 := Lib.hid hlzk; clear hmzk hczk hownk hlzk hbzk hgrk hxk))
  obtain ⟨hcc, hxx⟩ := own_at HOs4.out
  have hjn := Tryd.strings_Join bzk 0 czk [nm, ⟨(Lib.itoa a).toArray⟩, ⟨(Lib.itoa (b + 256 * c)).toArray⟩] ⟨#[32]⟩ zk (fun j x hj => by
    match j with
    | 0 => obtain rfl : _ = x := Option.some.inj hj; exact hxx 0 _ rfl
    | 1 => obtain rfl : _ = x := Option.some.inj hj; exact hxx 1 _ rfl
    | 2 => obtain rfl : _ = x := Option.some.inj hj; exact hxx 2 _ rfl
    | j + 3 => simp at hj) HLs4.out (by simp) hcc (by
      have h1 := HNM.out
      have h1b := Lib.size_eq nm
      have h_a := itoa_len a (by omega)
      have h_k := itoa_len (b + 256 * c) (by omega)
      simp [Lib.join]
      omega)
  refine hjn.mono ?_
  rintro e w10 ⟨rfl, hb10⟩
  go_wp2
  go_ret2
  exact ⟨rfl, HM1.out.trans (HMs4.out.trans (Mod.of_below hb10))⟩

set_option maxHeartbeats 8000000 in
theorem text_n1 (o : Int) (ho : 0 ≤ o ∧ o ≤ 20) (hn8 : ¬ o = 18) (hn9 : ¬ o = 19) (a b c R : Int) (nm : ByteArray) (hnm : nm.size ≤ 10) (bA cap : Nat) (w : World) (ha : 0 ≤ a ∧ a ≤ 255) (hb : 0 ≤ b ∧ b ≤ 255) (hc : 0 ≤ c ∧ c ≤ 255) (hcap : 4 ≤ cap)
    (hcl : ∀ w', Mod No w w' → w'.cell? ⟨bA, 0, none⟩ = some (.int .u8 o) ∧ w'.cell? ⟨bA, 1, none⟩ = some (.int .u8 a) ∧ w'.cell? ⟨bA, 2, none⟩ = some (.int .u8 b) ∧ w'.cell? ⟨bA, 3, none⟩ = some (.int .u8 c))
    (hidx : ∀ w, (Instr.index 37 (.agg nameCells.toArray) (.int .u8 o)).run Tryd.prog w = .ok (.string nm) w)
    (hsh : ∀ w, Calls Tryd.prog 11 #[.agg #[.int .u8 o, .int .u8 a, .int .u8 b, .int .u8 c]] w fun e w' => e = .returned (.agg #[.int .i64 R, .int .i64 1, .bool false]) ∧ Mod No w w')
    (htab : ∀ w', Mod No w w' → Lib.TabIs Tryd.prog w' "internal/strconv.uint64pow10" .u64 Lib.pow10Tab) :
    Calls Tryd.prog 5 #[.slice (some ⟨bA, 0, none⟩) 4 cap] w fun e w' => e = .returned (.tuple #[.string ⟨(Lib.join ([nm, ⟨(Lib.itoa a).toArray⟩].map (·.data.toList)) [32]).toArray⟩, .int .i64 0]) ∧ Mod No w w' := by
  obtain ⟨c0, c1, c2, c3⟩ := hcl w (Mod.refl No w)
  have hbl : bA < w.heap.size := World.block_lt_of_cell? w _ c0
  have HCL := Lib.hid hcl
  have HSHP := Lib.hid hsh
  have HTAB := Lib.hid htab
  have HNM := Lib.hid hnm
  have q1 : (2 : Int) ≤ (cap : Int) := by omega
  have q2 : (3 : Int) ≤ (cap : Int) := by omega
  have q3 : (4 : Int) ≤ (cap : Int) := by omega
  have q4 : cap ≠ 1 := by omega
  have q5 : (1 : Int) ≤ (cap : Int) := by omega
  clear hcl hsh htab hnm
  have ho20 : ¬ 20 < o := by omega
  have e18 : (o == 18) = false := beq_eq_false_iff_ne.2 hn8
  have e19 : (o == 19) = false := beq_eq_false_iff_ne.2 hn9
  go_enter Tryd.func5, Tryd.ntmps5
  go_upto_region 3 with (fail)
  go_region
  have hm1 : Mod No w (w.alloc (.cells #[.int .u8 o, .int .u8 a, .int .u8 b, .int .u8 c] 36)).drew := ((Mod.refl No w).alloc _).drew
  have hB : (w.alloc (.cells #[.int .u8 o, .int .u8 a, .int .u8 b, .int .u8 c] 36)).drew.heap[w.heap.size]? = some (.cells ([.int .u8 o, .int .u8 a, .int .u8 b, .int .u8 c] : List Value).toArray 36 (0, 0)) := heap_alloc_new w _
  generalize (w.alloc (.cells #[.int .u8 o, .int .u8 a, .int .u8 b, .int .u8 c] 36)).drew = w1 at hm1 hB ⊢
  generalize w.heap.size = bB at hB ⊢
  have HM1 := Lib.hid hm1
  have HB := Lib.hid hB
  have i0 : w1.cell? ⟨bB, 0, none⟩ = some (.int .u8 o) := row_cell hB 0
  clear hm1 hB c0 c1 c2 c3 hbl
  go_upto_region 6 with (fail)
  have hS1 : (fun w' : World => w'.cell? ⟨bB, 0, none⟩ = some (.int .u8 o)) w1 := i0
  go_region_held3 (fun w' : World => w'.cell? ⟨bB, 0, none⟩ = some (.int .u8 o)) (first | exact hS1 | assumption | go_keep) (first
    | (go_at_call 10; refine (names_any _).mono ?_; rintro e w2 ⟨rfl, hm2⟩; have hS2 : (fun w' : World => w'.cell? ⟨bB, 0, none⟩ = some (.int .u8 o)) w2 := row_cell (((Mod.refl No w1).drew.trans hm2).blk HB.out (fun q => q)) 0; have HM2 := Lib.hid ((Mod.refl No w1).drew.trans hm2); clear hm2))
  have ho3 : (w2.alloc (.cells #[.string nm] 9)).ownsRow w2.heap.size 9 1 (.slice (some ⟨w2.heap.size, 0, none⟩) 1 1) 1 [.string nm] := ⟨rfl, .inr ⟨w2.heap.size, 1, #[.string nm], rfl, Nat.le_refl _, heap_alloc_new w2 _, Nat.le_refl _, by decide, rfl, rfl⟩⟩
  have hm3 : Mod No w1 (w2.alloc (.cells #[.string nm] 9)) := HM2.out.alloc _
  have hg3 : w2.heap.size < (w2.alloc (.cells #[.string nm] 9)).heap.size := by simp
  have hg1 : w1.heap.size ≤ w2.heap.size := HM2.out.size
  generalize w2.alloc (.cells #[.string nm] 9) = w3 at ho3 hm3 hg3 ⊢
  generalize w2.heap.size = g at ho3 hg3 hg1 ⊢
  have HO3 := Lib.hid ho3
  have HM3 := Lib.hid hm3
  have HG3 := Lib.hid hg3
  have HG1 := Lib.hid hg1
  have j0 : w3.cell? ⟨bB, 0, none⟩ = some (.int .u8 o) := row_cell (hm3.blk HB.out (fun q => q)) 0
  have j1 : w3.cell? ⟨bB, 1, none⟩ = some (.int .u8 a) := row_cell (hm3.blk HB.out (fun q => q)) 1
  have j2 : w3.cell? ⟨bB, 2, none⟩ = some (.int .u8 b) := row_cell (hm3.blk HB.out (fun q => q)) 2
  have j3 : w3.cell? ⟨bB, 3, none⟩ = some (.int .u8 c) := row_cell (hm3.blk HB.out (fun q => q)) 3
  clear ho3 hm3 hg3 i0 hS1 hidx HM2 hg1
  go_wp2_with (go_at_call 11; refine (HSHP.out _).mono ?_; rintro e w4 ⟨rfl, hm4⟩; have HM4 := Lib.hid (HM3.out.trans hm4); have HO4 := Lib.hid (own_kept HO3.out hm4 (fun _ _ q => q)); have HG4 := Lib.hid (Nat.lt_of_lt_of_le HG3.out hm4.size); clear hm4)
  obtain ⟨u0, hu, hu0, hu1, hu2⟩ := info_parts infoStr
  have hsz : (w4.alloc (.cells #[.int .i64 R, .int .i64 1, .bool false] 41)).heap[w4.heap.size]? = some (.cells ([.int .i64 R, .int .i64 1, .bool false] : List Value).toArray 41 (0, 0)) := heap_alloc_new w4 _
  have hm5 : Mod No w1 (w4.alloc (.cells #[.int .i64 R, .int .i64 1, .bool false] 41)) := HM4.out.alloc _
  have ho5 := own_kept HO4.out ((Mod.refl No w4).alloc (.cells #[.int .i64 R, .int .i64 1, .bool false] 41)) (fun _ _ q => q)
  have hl5 : g < (w4.alloc (.cells #[.int .i64 R, .int .i64 1, .bool false] 41)).heap.size := by have := HG4.out; simp; omega
  generalize w4.alloc (.cells #[.int .i64 R, .int .i64 1, .bool false] 41) = w5 at hsz hm5 ho5 hl5 ⊢
  generalize w4.heap.size = bC at hsz ⊢
  have HMs0 := Lib.hid hm5
  have HCs0 := Lib.hid hsz
  have HOs0 := Lib.hid ho5
  have HLs0 := Lib.hid hl5
  have HBs0 : Hid (g ≤ g) := Nat.le_refl _
  clear hm5 hsz ho5 hl5 HM4 HO4 HG4 HM3 HO3 HG3 j0 j1 j2 j3
  refine wp_loop_rounds 2 ?_
  rw [rounds_succ]
  have a0 : w5.cell? ⟨bA, 1, none⟩ = some (.int .u8 a) := (HCL.out _ (HM1.out.trans HMs0.out)).2.1
  go_wp2_with (first
    | (go_at_call 12; refine (itoa_c a (by omega) (by omega) _ (HTAB.out _ (HM1.out.trans HMs0.out))).mono ?_; rintro e y0 ⟨rfl, hmy0⟩; have HMy0 := Lib.hid (HMs0.out.trans hmy0); have HOy0 := Lib.hid (own_kept HOs0.out hmy0 (fun _ _ q => q)); have HCy0 := Lib.hid (hmy0.blk HCs0.out (fun q => q)); have HLy0 := Lib.hid (Nat.lt_of_lt_of_le HLs0.out hmy0.size); clear hmy0)
    | (at_builtin; refine wpList_append_own _ rfl (.tmp 46) (.tmp 50) 39 rfl g 9 u0 (.string ⟨#[]⟩) 1 16 Tryd.underlying39 hu hu0 hu1 hu2 rfl (by decide) (.slice (some ⟨g, 0, none⟩) 1 1) 1 _ rfl (own_kept HOy0.out ((Mod.refl No _).alloc _) (fun _ _ q => q)) ⟨_, 0, none⟩ 1 1 [.string ⟨(Lib.itoa a).toArray⟩] rfl (by simp) (fun j u hj => by rw [Addr.add_lit, Nat.zero_add]; exact (row_cell (heap_alloc_new _ (.cells #[.string ⟨(Lib.itoa a).toArray⟩] 9)) j).trans hj) (by simp [Value.oneCell']) (by unfold maxLen; omega) (by omega) (by have h1 := HLy0.out; have h2 := HBs0.out; simp; omega) ?_; intro v0 z0 hown0 hgr0 _; obtain ⟨hmz0, hcz0, bz0, cz0, rfl, hbz0, hlz0, _, hx0⟩ := app_str2 (HMy0.out.alloc _) (own_kept HOy0.out ((Mod.refl No _).alloc _) (fun _ _ q => q)) (blk_alloc HCy0.out _) (by decide) HG1.out HBs0.out hown0 hgr0; have HMs1 := Lib.hid hmz0; have HCs1 := Lib.hid hcz0; have HOs1 := Lib.hid hown0; have HLs1 := Lib.hid hlz0; have HBs1 := Lib.hid hbz0; clear hmz0 hcz0 hown0 hlz0 hbz0 hgr0 hx0))
  clear a0
  rw [rounds_succ]
  have j0 : z0.cell? ⟨bB, 0, none⟩ = some (.int .u8 o) := row_cell (HMs1.out.blk HB.out (fun q => q)) 0
  have j1 : z0.cell? ⟨bB, 1, none⟩ = some (.int .u8 a) := row_cell (HMs1.out.blk HB.out (fun q => q)) 1
  have j2 : z0.cell? ⟨bB, 2, none⟩ = some (.int .u8 b) := row_cell (HMs1.out.blk HB.out (fun q => q)) 2
  have j3 : z0.cell? ⟨bB, 3, none⟩ = some (.int .u8 c) := row_cell (HMs1.out.blk HB.out (fun q => q)) 3
  have HKK := Lib.hid (fun w' => kk_any o a b c w' hb hc)
  go_wp2_with (first
    | (go_at_call 13; refine (HKK.out _).mono ?_; rintro e yk ⟨rfl, hmyk⟩; have HMs2 := Lib.hid (HMs1.out.trans hmyk); have HOs2 := Lib.hid (own_kept HOs1.out hmyk (fun _ _ q => q)); have HCs2 := Lib.hid (hmyk.blk HCs1.out (fun q => q)); have HLs2 := Lib.hid (Nat.lt_of_lt_of_le HLs1.out hmyk.size); have HBs2 := Lib.hid HBs1.out; have lyk0 : yk.cell? ⟨bB, 0, none⟩ = some (.int .u8 o) := row_cell (HMs2.out.blk HB.out (fun q => q)) 0; have myk : yk.cell? ⟨bC, 2, none⟩ = some (.bool false) := row_cell HCs2.out 2; clear hmyk))
  obtain ⟨hcc, hxx⟩ := own_at HOs2.out
  have hjn := Tryd.strings_Join bz0 0 cz0 [nm, ⟨(Lib.itoa a).toArray⟩] ⟨#[32]⟩ yk (fun j x hj => by
    match j with
    | 0 => obtain rfl : _ = x := Option.some.inj hj; exact hxx 0 _ rfl
    | 1 => obtain rfl : _ = x := Option.some.inj hj; exact hxx 1 _ rfl
    | j + 2 => simp at hj) HLs2.out (by simp) hcc (by
      have h1 := HNM.out
      have h1b := Lib.size_eq nm
      have h_a := itoa_len a (by omega)
      simp [Lib.join]
      omega)
  refine hjn.mono ?_
  rintro e w10 ⟨rfl, hb10⟩
  go_wp2
  go_ret2
  exact ⟨rfl, HM1.out.trans (HMs2.out.trans (Mod.of_below hb10))⟩

end Go.Proofs.YtapnodlmfapjlaaDoor
