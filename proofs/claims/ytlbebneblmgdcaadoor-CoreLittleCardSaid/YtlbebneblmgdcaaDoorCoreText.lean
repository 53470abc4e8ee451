/- core.Text at one instruction: awake. -/
import Derived.Test.YtlbebneblmgdcaaDoorCoreNames
import Derived.Test.YtlbebneblmgdcaaDoorCoreShelf
import Derived.RegionTactic
import Derived.ChangeAlike
import Derived.Deep.RegionHeld3
import Derived.LoopN
import Derived.Laws.CopyOwn
namespace Go.Proofs.YtlbebneblmgdcaaDoor
open Go.RowKit
set_option maxRecDepth 100000

theorem own_kept {w w' : World} {Q : Nat → Prop} {n₀ : Nat} {e : TypeId} {size : Nat} {v : Value} {k : Nat} {xs : List Value} (h : w.ownsRow n₀ e size v k xs) (hm : Mod Q w w') (hq : ∀ i, v.ownBlock = some i → ¬ Q i) : w'.ownsRow n₀ e size v k xs := by
  refine ⟨h.1, ?_⟩
  rcases h.2 with h2 | ⟨g, cap, cur, hv, hg, hr, r⟩
  · exact .inl h2
  · exact .inr ⟨g, cap, cur, hv, hg, hm.blk hr (hq g (by rw [hv]; rfl)), r⟩

/-- What stands behind an append onto the call's own row of texts. -/
theorem app_str {a w w' : World} {g : Nat} {t : TypeId} {v v' : Value} {n : Nat} {xs : List Value} (hm : Mod No a w) (hg : a.heap.size ≤ g) (hv : v.ownBlock = none ∨ ∃ b, v.ownBlock = some b ∧ g ≤ b) (hown : w'.ownsRow g t 1 v' (n + 1) xs) (hgr : w.grownBy w' v.ownBlock) :
    Mod No a w' ∧ ∃ b c, v' = .slice (some ⟨b, 0, none⟩) (n + 1) c ∧ g ≤ b ∧ b < w'.heap.size ∧ n + 1 ≤ c ∧ ∀ (j : Nat) x, xs[j]? = some x → w'.cell? ⟨b, 0 + j, none⟩ = some x := by
  refine ⟨hm.grown hgr (fun k ek hk => ?_), ?_⟩
  · rcases hv with h | ⟨b, h, hb⟩
    · rw [h] at ek; cases ek
    · rw [h] at ek; cases ek; omega
  · rcases hown.2 with ⟨_, e⟩ | ⟨b, c, cur, e, hb, hr, hc, hm2, hs, ht⟩
    · omega
    · refine ⟨b, c, e, hb, lt_of_blk hr, hc, fun j x hj => ?_⟩
      have := hown.cells (g := b) (by rw [e]; rfl) j x hj
      rw [Addr.add_lit] at this
      exact this

theorem infoStr : (Tryd.prog.info? 9).map (fun i => (i.zero, i.size, i.bytes)) = some (some (.string ⟨#[]⟩), 1, 16) := by kernel_rfl

set_option maxHeartbeats 8000000 in
theorem text_set (w : World) : Calls Tryd.prog 23 #[.slice (some ⟨w.heap.size, 0, none⟩) 4 4] (w.alloc (.cells #[.int .u8 1, .int .u8 1, .int .u8 7, .int .u8 0] 5)) fun e w' => e = .returned (.tuple #[.string ⟨#[115, 101, 116, 32, 49, 32, 55]⟩, .int .i64 0]) ∧ Mod No w w' := by
  go_enter Tryd.func23, Tryd.ntmps23
  go_upto_region 3 with (fail)
  go_region
  have hidx : ∀ w, (Instr.index 112 (.agg nameCells.toArray) (.int .u8 1)).run Tryd.prog w = .ok (.string ⟨#[115, 101, 116]⟩) w := fun w => by
    unfold nameCells
    simp [go_sem, Instr.index, asIntOf, run_underlying Tryd.underlying112]
  have hm1 : Mod No w ((w.alloc (.cells #[.int .u8 1, .int .u8 1, .int .u8 7, .int .u8 0] 5)).alloc (.cells #[.int .u8 1, .int .u8 1, .int .u8 7, .int .u8 0] 63)).drew := (((Mod.refl No w).alloc _).alloc _).drew
  have hA : ((w.alloc (.cells #[.int .u8 1, .int .u8 1, .int .u8 7, .int .u8 0] 5)).alloc (.cells #[.int .u8 1, .int .u8 1, .int .u8 7, .int .u8 0] 63)).drew.heap[w.heap.size]? = some (.cells ([.int .u8 1, .int .u8 1, .int .u8 7, .int .u8 0] : List Value).toArray 5 (0, 0)) := blk_alloc (heap_alloc_new w _) (.cells #[.int .u8 1, .int .u8 1, .int .u8 7, .int .u8 0] 63)
  have hB : ((w.alloc (.cells #[.int .u8 1, .int .u8 1, .int .u8 7, .int .u8 0] 5)).alloc (.cells #[.int .u8 1, .int .u8 1, .int .u8 7, .int .u8 0] 63)).drew.heap[w.heap.size + 1]? = some (.cells ([.int .u8 1, .int .u8 1, .int .u8 7, .int .u8 0] : List Value).toArray 63 (0, 0)) := by
    have h := heap_alloc_new (w.alloc (.cells #[.int .u8 1, .int .u8 1, .int .u8 7, .int .u8 0] 5)) (.cells #[.int .u8 1, .int .u8 1, .int .u8 7, .int .u8 0] 63)
    rw [World.size_alloc] at h
    exact h
  generalize ((w.alloc (.cells #[.int .u8 1, .int .u8 1, .int .u8 7, .int .u8 0] 5)).alloc (.cells #[.int .u8 1, .int .u8 1, .int .u8 7, .int .u8 0] 63)).drew = w1 at hm1 hA hB ⊢
  generalize w.heap.size + 1 = bB at hB ⊢
  generalize w.heap.size = bA at hA ⊢
  have HM1 := Lib.hid hm1
  have HA := Lib.hid hA
  have HB := Lib.hid hB
  have i0 : w1.cell? ⟨bB, 0, none⟩ = some (.int .u8 1) := row_cell hB 0
  clear hm1 hA hB
  go_upto_region 6 with (fail)
  have hS1 : (fun w' : World => w'.cell? ⟨bB, 0, none⟩ = some (.int .u8 1)) w1 := i0
  go_region_held3 (fun w' : World => w'.cell? ⟨bB, 0, none⟩ = some (.int .u8 1)) (first | exact hS1 | assumption | go_keep) (first
    | (go_at_call 56; refine (names_any _).mono ?_; rintro e w2 ⟨rfl, hm2⟩; have hS2 : (fun w' : World => w'.cell? ⟨bB, 0, none⟩ = some (.int .u8 1)) w2 := row_cell (((Mod.refl No w1).drew.trans hm2).blk HB.out (fun q => q)) 0; have HM2 := Lib.hid ((Mod.refl No w1).drew.trans hm2); clear hm2))
  have ho3 : (w2.alloc (.cells #[.string ⟨#[115, 101, 116]⟩] 9)).ownsRow w2.heap.size 9 1 (.slice (some ⟨w2.heap.size, 0, none⟩) 1 1) 1 [.string ⟨#[115, 101, 116]⟩] := ⟨rfl, .inr ⟨w2.heap.size, 1, #[.string ⟨#[115, 101, 116]⟩], rfl, Nat.le_refl _, heap_alloc_new w2 _, Nat.le_refl _, by decide, rfl, rfl⟩⟩
  have hm3 : Mod No w1 (w2.alloc (.cells #[.string ⟨#[115, 101, 116]⟩] 9)) := HM2.out.alloc _
  have hg3 : w2.heap.size < (w2.alloc (.cells #[.string ⟨#[115, 101, 116]⟩] 9)).heap.size := by simp
  have hg1 : w1.heap.size ≤ w2.heap.size := HM2.out.size
  generalize w2.alloc (.cells #[.string ⟨#[115, 101, 116]⟩] 9) = w3 at ho3 hm3 hg3 ⊢
  generalize w2.heap.size = g at ho3 hg3 hg1 ⊢
  have HO3 := Lib.hid ho3
  have HM3 := Lib.hid hm3
  have HG3 := Lib.hid hg3
  have HG1 := Lib.hid hg1
  clear hg1
  have j0 : w3.cell? ⟨bB, 0, none⟩ = some (.int .u8 1) := row_cell (hm3.blk HB.out (fun q => q)) 0
  have j1 : w3.cell? ⟨bB, 1, none⟩ = some (.int .u8 1) := row_cell (hm3.blk HB.out (fun q => q)) 1
  have j2 : w3.cell? ⟨bB, 2, none⟩ = some (.int .u8 7) := row_cell (hm3.blk HB.out (fun q => q)) 2
  have j3 : w3.cell? ⟨bB, 3, none⟩ = some (.int .u8 0) := row_cell (hm3.blk HB.out (fun q => q)) 3
  clear ho3 hm3 hg3 i0 hS1 hidx HM2
  go_wp2_with (go_at_call 19; refine (shape_1 _ _ _ _).mono ?_; rintro e w4 ⟨rfl, hm4⟩; have HM4 := Lib.hid (HM3.out.trans hm4); have HO4 := Lib.hid (own_kept HO3.out hm4 (fun _ _ q => q)); have a1 : w4.cell? ⟨bA, 1, none⟩ = some (.int .u8 1) := row_cell ((HM3.out.trans hm4).blk HA.out (fun q => q)) 1; have HG4 := Lib.hid (Nat.lt_of_lt_of_le HG3.out hm4.size); clear hm4)
  have HI1 : Hid (∀ w', Calls Tryd.prog 57 #[.int .i64 1] w' fun e w2 => e = .returned (.string ⟨#[49]⟩) ∧ w2 = w') := fun w' => by
    have h := Tryd.strconv_Itoa_small 1 (by decide) w'
    rw [show Lib.decDigits 1 = [49] by unfold Lib.decDigits; rfl] at h
    exact h
  have HI7 : Hid (∀ w', Calls Tryd.prog 57 #[.int .i64 7] w' fun e w2 => e = .returned (.string ⟨#[55]⟩) ∧ w2 = w') := fun w' => by
    have h := Tryd.strconv_Itoa_small 7 (by decide) w'
    rw [show Lib.decDigits 7 = [55] by unfold Lib.decDigits; rfl] at h
    exact h
  obtain ⟨u0, hu, hu0, hu1, hu2⟩ := info_parts infoStr
  have hm5 : Mod No w1 (w4.alloc (.cells #[.int .i64 1, .int .i64 1, .bool true] 71)) := HM4.out.alloc _
  have hSh : (w4.alloc (.cells #[.int .i64 1, .int .i64 1, .bool true] 71)).heap[w4.heap.size]? = some (.cells ([.int .i64 1, .int .i64 1, .bool true] : List Value).toArray 71 (0, 0)) := heap_alloc_new w4 _
  have ho5 := own_kept HO4.out ((Mod.refl No w4).alloc (.cells #[.int .i64 1, .int .i64 1, .bool true] 71)) (fun _ _ q => q)
  have hgC : g < w4.heap.size := HG4.out
  have hg5 : g ≤ (w4.alloc (.cells #[.int .i64 1, .int .i64 1, .bool true] 71)).heap.size := by have := HG4.out; simp; omega
  clear a1
  generalize w4.alloc (.cells #[.int .i64 1, .int .i64 1, .bool true] 71) = w5 at hm5 hSh ho5 hg5 ⊢
  generalize w4.heap.size = bC at hSh hgC ⊢
  have HM5 := Lib.hid hm5
  have HSh := Lib.hid hSh
  have HO5 := Lib.hid ho5
  have HG5 := Lib.hid hg5
  have HGC := Lib.hid hgC
  clear hgC
  have a1 : w5.cell? ⟨bA, 1, none⟩ = some (.int .u8 1) := row_cell (hm5.blk HA.out (fun q => q)) 1
  clear hm5 hSh ho5 hg5 HM4 HO4 HG4
  refine wp_loop_rounds 2 ?_
  rw [rounds_succ]
  go_wp2_with (first
    | (go_at_call 57; refine (HI1.out _).mono ?_; rintro e w6 ⟨rfl, rfl⟩)
    | (at_builtin; refine wpList_append_own _ rfl (.tmp 46) (.tmp 50) 114 rfl g 9 u0 (.string ⟨#[]⟩) 1 16 Tryd.underlying114 hu hu0 hu1 hu2 rfl (by decide) (.slice (some ⟨g, 0, none⟩) 1 1) 1 _ rfl (own_kept HO5.out ((Mod.refl No _).alloc _) (fun _ _ q => q)) ⟨_, 0, none⟩ 1 1 [.string ⟨#[49]⟩] rfl (by simp) (fun j u hj => by rw [Addr.add_lit, Nat.zero_add]; exact (row_cell (heap_alloc_new _ (.cells #[.string ⟨#[49]⟩] 9)) j).trans hj) (by simp [Value.oneCell']) (by unfold maxLen; omega) (by omega) (by have := HG5.out; simp; omega) ?_; intro v6 w6 hown6 hgr6 _))
  obtain ⟨hm6, b6, c6, rfl, hb6, hl6, _, _⟩ := app_str (HM5.out.alloc _) HG1.out (.inr ⟨g, rfl, Nat.le_refl _⟩) hown6 hgr6
  have hC6 : w6.heap[bC]? = some (.cells ([.int .i64 1, .int .i64 1, .bool true] : List Value).toArray 71 (0, 0)) := by
    have h1 := blk_alloc HSh.out (.cells #[.string ⟨#[49]⟩] 9)
    have hne : bC ≠ g := Nat.ne_of_gt HGC.out
    exact (hgr6.block bC (lt_of_blk h1) (fun e => hne (by cases e; rfl))).trans h1
  have HM6 := Lib.hid hm6
  have HO6 := Lib.hid hown6
  have HC6 := Lib.hid hC6
  have HB6 := Lib.hid hb6
  have HL6 := Lib.hid hl6
  have k0 : w6.cell? ⟨bB, 0, none⟩ = some (.int .u8 1) := row_cell (hm6.blk HB.out (fun q => q)) 0
  have k1 : w6.cell? ⟨bB, 1, none⟩ = some (.int .u8 1) := row_cell (hm6.blk HB.out (fun q => q)) 1
  have k2 : w6.cell? ⟨bB, 2, none⟩ = some (.int .u8 7) := row_cell (hm6.blk HB.out (fun q => q)) 2
  have k3 : w6.cell? ⟨bB, 3, none⟩ = some (.int .u8 0) := row_cell (hm6.blk HB.out (fun q => q)) 3
  clear hm6 hown6 hC6 hgr6 a1 j0 j1 j2 j3 hb6 hl6 HM5 HO5 HSh
  rw [rounds_succ]
  have HKK := Lib.hid (fun w' => kk_any 1 1 7 0 w' (by omega) (by omega))
  go_wp2_with (first
    | (go_at_call 58; refine (HKK.out _).mono ?_; rintro e w7 ⟨rfl, hm7⟩; have HM7 := Lib.hid (HM6.out.trans hm7); have HO7 := Lib.hid (own_kept HO6.out hm7 (fun _ _ q => q)); have l0 : w7.cell? ⟨bB, 0, none⟩ = some (.int .u8 1) := row_cell ((HM6.out.trans hm7).blk HB.out (fun q => q)) 0; have l2 : w7.cell? ⟨bC, 2, none⟩ = some (.bool true) := row_cell (hm7.blk HC6.out (fun q => q)) 2; have HL7 := Lib.hid (Nat.lt_of_lt_of_le HL6.out hm7.size); clear hm7)
    | (go_at_call 57; refine (HI7.out _).mono ?_; rintro e w8 ⟨rfl, rfl⟩)
    | (at_builtin; refine wpList_append_own _ rfl (.tmp 68) (.tmp 71) 114 rfl g 9 u0 (.string ⟨#[]⟩) 1 16 Tryd.underlying114 hu hu0 hu1 hu2 rfl (by decide) (.slice (some ⟨b6, 0, none⟩) 2 c6) 2 _ rfl (own_kept HO7.out ((Mod.refl No _).alloc _) (fun _ _ q => q)) ⟨_, 0, none⟩ 1 1 [.string ⟨#[55]⟩] rfl (by simp) (fun j u hj => by rw [Addr.add_lit, Nat.zero_add]; exact (row_cell (heap_alloc_new _ (.cells #[.string ⟨#[55]⟩] 9)) j).trans hj) (by simp [Value.oneCell']) (by unfold maxLen; omega) (by omega) (by have h1 := HL7.out; have h2 := HB6.out; simp; omega) ?_; intro v9 w9 hown9 hgr9 _; obtain ⟨hm9, b9, c9, rfl, hb9, hl9, hc9, hx9⟩ := app_str (HM7.out.alloc _) HG1.out (.inr ⟨b6, rfl, HB6.out⟩) hown9 hgr9; have HM9 := Lib.hid hm9; clear hown9 hgr9 hm9 hb9))
  have hjn := Tryd.strings_Join b9 0 c9 [⟨#[115, 101, 116]⟩, ⟨#[49]⟩, ⟨#[55]⟩] ⟨#[32]⟩ w9 (fun j x hj => by
    match j with
    | 0 => obtain rfl : _ = x := Option.some.inj hj; exact hx9 0 _ rfl
    | 1 => obtain rfl : _ = x := Option.some.inj hj; exact hx9 1 _ rfl
    | 2 => obtain rfl : _ = x := Option.some.inj hj; exact hx9 2 _ rfl
    | j + 3 => simp at hj) hl9 (by simp) hc9 (by decide)
  refine hjn.mono ?_
  rintro e w10 ⟨rfl, hb10⟩
  go_wp2
  go_ret2
  exact ⟨rfl, HM1.out.trans (HM9.out.trans (Mod.of_below hb10))⟩

theorem awake19_yes (w : World) : Calls Tryd.prog 9 #[] w fun e w' => e = .returned (.bool true) ∧ Mod No w w' := by
  have HT := Lib.hid (text_set w)
  go_enter Tryd.func9, Tryd.ntmps9
  go_wp2_with (go_at_call 23; refine HT.out.mono ?_; rintro e w2 ⟨rfl, h2⟩)
  go_ret
  exact ⟨rfl, h2⟩

end Go.Proofs.YtlbebneblmgdcaaDoor
