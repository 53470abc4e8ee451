/- Where an address leads: the code's and the document's. (Printed by wip/gen_walk.py.) -/
import Derived.Test.YtlaamkojkpamaaaPteEnt
import Derived.WalkMore
import Derived.ScopeJumps
namespace Go.Proofs.Ytlaamkojkpamaaa
open Go.RowKit
set_option maxRecDepth 100000

/-- A scope in which the run jumps on to one label, or does not: what the jump comes to is asked where it is made. -/
theorem wp_scope_fwd {P : Program} {a : Act} {w : World} {Q : Exit → Act → World → Prop} {c rest : Code} (l : Nat) (hf : findLabel c l = some rest)
    (first : c.wp P (Exit.jump l (fun a w => rest.wp P (Exit.noGoto Q) a w) Q) a w) : (Code.scope c).wp P Q a w := by
  refine wp_scope_jumps l _ (fun _ _ => 0) hf first (fun a w hJ => Code.wp_mono (fun e a w h => ?_) hJ)
  cases e with
  | goto l' => exact (h : False).elim
  | _ => exact h

theorem entR_ok {S : List Fr} (hS : okS S) (t i : Int) : 0 ≤ (entR S t i).1.mfn := by
  have hr := atR_range hS t i
  unfold entR
  split
  · simp [noEnt]
  · split
    · simp [noEnt]
    · split
      · unfold unpackR
        split
        · simp [noEnt]
        · split
          · simp [noEnt]
          · simp only; omega
      · simp [noEnt]

theorem mod_set3 {w w2 : World} {b : Nat} (h : Mod No w w2) (hb : w.heap.size ≤ b) (x y z : Value) : Mod No w (((w2.setCell ⟨b, 0, none⟩ x).setCell ⟨b, 1, none⟩ y).setCell ⟨b, 2, none⟩ z) :=
  ((h.setCell (p := ⟨b, 0, none⟩) (fun q => absurd q (by simp only; omega)) _).setCell (p := ⟨b, 1, none⟩) (fun q => absurd q (by simp only; omega)) _).setCell (p := ⟨b, 2, none⟩) (fun q => absurd q (by simp only; omega)) _
theorem blk_set3 {w2 : World} {b c : Nat} {o : Obj} (h : w2.heap[c]? = some o) (hb : c ≠ b) (x y z : Value) : (((w2.setCell ⟨b, 0, none⟩ x).setCell ⟨b, 1, none⟩ y).setCell ⟨b, 2, none⟩ z).heap[c]? = some o :=
  blk_setCell (p := ⟨b, 2, none⟩) (blk_setCell (p := ⟨b, 1, none⟩) (blk_setCell (p := ⟨b, 0, none⟩) h hb _) hb _) hb _

set_option maxHeartbeats 1600000 in
theorem walk_1 {B F : Nat} {S : List Fr} (root va : Int) (wr : Bool) (w : World) (h : PhM w B F S) (hv : 1048576 ≤ va) (hv2 : va ≤ 4294967295) :
    Calls Try.prog 26 #[.pointer (some ⟨B, 0, none⟩), .int .i64 root, .int .u32 va, .bool wr] w fun e w' => e = .returned (.tuple #[.int .i64 0, .int .i64 0, .int .i64 1]) ∧ Mod No w w' := by
  have hlen := h.len
  have ds : ((S.length : Int) == 0) = false := beq_eq_false_iff_ne.2 (by omega)
  have HSZ : Hid (∀ w', Mod No w w' → Calls Try.prog 63 #[.pointer (some ⟨B, 0, none⟩)] w' fun e w2 => e = .returned (.int .i64 S.length) ∧ w' = w2) := fun w' hm => size_made w' (h.kept hm (fun q => q) (fun q => q))
  have HSP := Lib.hid (fun w' => split_no va w' hv hv2)
  clear hv hv2 h
  go_enter Try.func26, Try.ntmps26
  go_wp2
  refine wp_scope_fwd 0 rfl ?_
  go_wp2_with fail
  refine (HSZ.out _ (((Mod.refl No w).alloc _).alloc _)).mono ?_
  rintro e w2 ⟨rfl, rfl⟩
  go_wp2_with fail
  refine (HSP.out _).mono ?_
  rintro e w2 ⟨rfl, rfl⟩
  go_wp2
  go_step3
  refine ⟨rfl, ?_⟩
  go_wp2
  rw [Exit.noGoto_ret]
  go_ret3
  exact ⟨rfl, ((Mod.refl No w).alloc _).alloc _⟩

set_option maxHeartbeats 1600000 in
theorem walk_2 {B F : Nat} {S : List Fr} (root va : Int) (wr : Bool) (w : World) (h : PhM w B F S) (hv : 0 ≤ va) (hv2 : va < 1048576) (he : (entR S root (va / 16384)).2 ≠ 0) :
    Calls Try.prog 26 #[.pointer (some ⟨B, 0, none⟩), .int .i64 root, .int .u32 va, .bool wr] w fun e w' => e = .returned (.tuple #[.int .i64 0, .int .i64 0, .int .i64 (entR S root (va / 16384)).2]) ∧ Mod No w w' := by
  have hlen := h.len
  have ds : ((S.length : Int) == 0) = false := beq_eq_false_iff_ne.2 (by omega)
  have HSZ : Hid (∀ w', Mod No w w' → Calls Try.prog 63 #[.pointer (some ⟨B, 0, none⟩)] w' fun e w2 => e = .returned (.int .i64 S.length) ∧ w' = w2) := fun w' hm => size_made w' (h.kept hm (fun q => q) (fun q => q))
  have HSP := Lib.hid (fun w' => split_yes va w' hv hv2)
  have HF1 : Hid (∀ w', Mod No w w' → Calls Try.prog 74 #[.pointer (some ⟨B, 0, none⟩), .int .i64 root, .int .i64 (va / 16384)] w' fun e w2 => e = .returned (.tuple #[(entR S root (va / 16384)).1.val, .int .i64 (entR S root (va / 16384)).2]) ∧ Mod No w' w2) := fun w' hm => follow_any _ _ w' (h.kept hm (fun q => q) (fun q => q))
  obtain ⟨p1, q1, m1⟩ := (entR S root (va / 16384)).1
  generalize (entR S root (va / 16384)).2 = er at he HF1 ⊢
  have de : (er != 0) = true := bne_iff_ne.2 he
  simp only [Ent.val] at HF1
  clear he h
  go_enter Try.func26, Try.ntmps26
  go_wp2
  refine wp_scope_fwd 0 rfl ?_
  go_wp2_with fail
  refine (HSZ.out _ (((Mod.refl No w).alloc _).alloc _)).mono ?_
  rintro e w2 ⟨rfl, rfl⟩
  go_wp2_with fail
  refine (HSP.out _).mono ?_
  rintro e w2 ⟨rfl, rfl⟩
  go_wp2_with fail
  refine (HF1.out _ (((Mod.refl No w).alloc _).alloc _)).mono ?_
  rintro e w2 ⟨rfl, hm2⟩
  have hb1 : w2.heap[w.heap.size]? = some (.cells ([.bool false, .bool false, .int .i64 0] : List Value).toArray 143 (0, 0)) := hm2.blk (blk_alloc (heap_alloc_new w _) _) (fun q => q)
  have hb2 : w2.heap[w.heap.size + 1]? = some (.cells ([.bool false, .bool false, .int .i64 0] : List Value).toArray 143 (0, 0)) := hm2.blk (by have := heap_alloc_new (w.alloc (.cells #[.bool false, .bool false, .int .i64 0] 143)) (.cells #[.bool false, .bool false, .int .i64 0] 143); rwa [World.size_alloc] at this) (fun q => q)
  have hm02 : Mod No w w2 := (((Mod.refl No w).alloc _).alloc _).trans hm2
  have x0 := row_cell hb1 0
  have x1 := row_cell hb1 1
  have x2 := row_cell hb1 2
  have xf0 := row_free hb1 0
  have xf1 := row_free hb1 1
  have xf2 := row_free hb1 2
  simp only [List.getElem?_cons_zero, List.getElem?_cons_succ] at x0 x1 x2
  have HM := Lib.hid hm02
  clear hm02 hm2
  go_wp2
  go_step3
  refine ⟨rfl, ?_⟩
  go_wp2
  rw [Exit.noGoto_ret]
  go_ret3
  exact ⟨rfl, mod_set3 HM.out (Nat.le_refl _) _ _ _⟩

set_option maxHeartbeats 1600000 in
theorem walk_3 {B F : Nat} {S : List Fr} (root va : Int) (wr : Bool) (w : World) (h : PhM w B F S) (hv : 0 ≤ va) (hv2 : va < 1048576) (he : (entR S root (va / 16384)).2 = 0) (hy : (entR S (entR S root (va / 16384)).1.mfn (va / 256 % 64)).2 ≠ 0) :
    Calls Try.prog 26 #[.pointer (some ⟨B, 0, none⟩), .int .i64 root, .int .u32 va, .bool wr] w fun e w' => e = .returned (.tuple #[.int .i64 0, .int .i64 0, .int .i64 (entR S (entR S root (va / 16384)).1.mfn (va / 256 % 64)).2]) ∧ Mod No w w' := by
  have hlen := h.len
  have ds : ((S.length : Int) == 0) = false := beq_eq_false_iff_ne.2 (by omega)
  have HSZ : Hid (∀ w', Mod No w w' → Calls Try.prog 63 #[.pointer (some ⟨B, 0, none⟩)] w' fun e w2 => e = .returned (.int .i64 S.length) ∧ w' = w2) := fun w' hm => size_made w' (h.kept hm (fun q => q) (fun q => q))
  have HSP := Lib.hid (fun w' => split_yes va w' hv hv2)
  have HF1 : Hid (∀ w', Mod No w w' → Calls Try.prog 74 #[.pointer (some ⟨B, 0, none⟩), .int .i64 root, .int .i64 (va / 16384)] w' fun e w2 => e = .returned (.tuple #[(entR S root (va / 16384)).1.val, .int .i64 (entR S root (va / 16384)).2]) ∧ Mod No w' w2) := fun w' hm => follow_any _ _ w' (h.kept hm (fun q => q) (fun q => q))
  have HF2 : Hid (∀ w', Mod No w w' → Calls Try.prog 74 #[.pointer (some ⟨B, 0, none⟩), .int .i64 (entR S root (va / 16384)).1.mfn, .int .i64 (va / 256 % 64)] w' fun e w2 => e = .returned (.tuple #[(entR S (entR S root (va / 16384)).1.mfn (va / 256 % 64)).1.val, .int .i64 (entR S (entR S root (va / 16384)).1.mfn (va / 256 % 64)).2]) ∧ Mod No w' w2) := fun w' hm => follow_any _ _ w' (h.kept hm (fun q => q) (fun q => q))
  rw [he] at HF1
  generalize entR S (entR S root (va / 16384)).1.mfn (va / 256 % 64) = E2 at hy HF2 ⊢
  generalize (entR S root (va / 16384)).1 = E1 at HF1 HF2
  obtain ⟨p1, q1, m1⟩ := E1
  obtain ⟨⟨p2, q2, m2⟩, er⟩ := E2
  simp only [Ent.val] at hy HF1 HF2 ⊢
  have de : (er != 0) = true := bne_iff_ne.2 hy
  clear he h hy
  go_enter Try.func26, Try.ntmps26
  go_wp2
  refine wp_scope_fwd 0 rfl ?_
  go_wp2_with fail
  refine (HSZ.out _ (((Mod.refl No w).alloc _).alloc _)).mono ?_
  rintro e w2 ⟨rfl, rfl⟩
  go_wp2_with fail
  refine (HSP.out _).mono ?_
  rintro e w2 ⟨rfl, rfl⟩
  go_wp2_with fail
  refine (HF1.out _ (((Mod.refl No w).alloc _).alloc _)).mono ?_
  rintro e w2 ⟨rfl, hm2⟩
  have hb1 : w2.heap[w.heap.size]? = some (.cells ([.bool false, .bool false, .int .i64 0] : List Value).toArray 143 (0, 0)) := hm2.blk (blk_alloc (heap_alloc_new w _) _) (fun q => q)
  have hb2 : w2.heap[w.heap.size + 1]? = some (.cells ([.bool false, .bool false, .int .i64 0] : List Value).toArray 143 (0, 0)) := hm2.blk (by have := heap_alloc_new (w.alloc (.cells #[.bool false, .bool false, .int .i64 0] 143)) (.cells #[.bool false, .bool false, .int .i64 0] 143); rwa [World.size_alloc] at this) (fun q => q)
  have hm02 : Mod No w w2 := (((Mod.refl No w).alloc _).alloc _).trans hm2
  have x0 := row_cell hb1 0
  have x1 := row_cell hb1 1
  have x2 := row_cell hb1 2
  have xf0 := row_free hb1 0
  have xf1 := row_free hb1 1
  have xf2 := row_free hb1 2
  simp only [List.getElem?_cons_zero, List.getElem?_cons_succ] at x0 x1 x2
  have hl1 := lt_of_blk hb1
  have HM := Lib.hid (mod_set3 hm02 (Nat.le_refl _) (.bool p1) (.bool q1) (.int .i64 m1))
  have HB2 := Lib.hid (blk_set3 hb2 (show w.heap.size + 1 ≠ w.heap.size by omega) (.bool p1) (.bool q1) (.int .i64 m1))
  clear hm02 hm2 hb1 hb2
  go_wp2_with fail
  refine (HF2.out _ HM.out).mono ?_
  rintro e w4 ⟨rfl, hm4⟩
  have hb2 := hm4.blk HB2.out (fun q => q)
  have y0 := row_cell hb2 0
  have y1 := row_cell hb2 1
  have y2 := row_cell hb2 2
  have yf0 := row_free hb2 0
  have yf1 := row_free hb2 1
  have yf2 := row_free hb2 2
  simp only [List.getElem?_cons_zero, List.getElem?_cons_succ] at y0 y1 y2
  have HM2 := Lib.hid (HM.out.trans hm4)
  have hl2 := lt_of_blk hb2
  clear hm4 hb2 HM HB2
  go_wp2
  go_step3
  refine ⟨rfl, ?_⟩
  go_wp2
  rw [Exit.noGoto_ret]
  go_ret3
  exact ⟨rfl, mod_set3 HM2.out (Nat.le_succ _) _ _ _⟩

set_option maxHeartbeats 1600000 in
theorem walk_4 {B F : Nat} {S : List Fr} (root va : Int) (wr : Bool) (w : World) (h : PhM w B F S) (hv : 0 ≤ va) (hv2 : va < 1048576) (he : (entR S root (va / 16384)).2 = 0) (hy : (entR S (entR S root (va / 16384)).1.mfn (va / 256 % 64)).2 = 0) (hw : (entR S (entR S root (va / 16384)).1.mfn (va / 256 % 64)).1.write = false) (hwr : wr = true) :
    Calls Try.prog 26 #[.pointer (some ⟨B, 0, none⟩), .int .i64 root, .int .u32 va, .bool wr] w fun e w' => e = .returned (.tuple #[.int .i64 0, .int .i64 0, .int .i64 41]) ∧ Mod No w w' := by
  have hlen := h.len
  have ds : ((S.length : Int) == 0) = false := beq_eq_false_iff_ne.2 (by omega)
  have HSZ : Hid (∀ w', Mod No w w' → Calls Try.prog 63 #[.pointer (some ⟨B, 0, none⟩)] w' fun e w2 => e = .returned (.int .i64 S.length) ∧ w' = w2) := fun w' hm => size_made w' (h.kept hm (fun q => q) (fun q => q))
  have HSP := Lib.hid (fun w' => split_yes va w' hv hv2)
  have HF1 : Hid (∀ w', Mod No w w' → Calls Try.prog 74 #[.pointer (some ⟨B, 0, none⟩), .int .i64 root, .int .i64 (va / 16384)] w' fun e w2 => e = .returned (.tuple #[(entR S root (va / 16384)).1.val, .int .i64 (entR S root (va / 16384)).2]) ∧ Mod No w' w2) := fun w' hm => follow_any _ _ w' (h.kept hm (fun q => q) (fun q => q))
  have HF2 : Hid (∀ w', Mod No w w' → Calls Try.prog 74 #[.pointer (some ⟨B, 0, none⟩), .int .i64 (entR S root (va / 16384)).1.mfn, .int .i64 (va / 256 % 64)] w' fun e w2 => e = .returned (.tuple #[(entR S (entR S root (va / 16384)).1.mfn (va / 256 % 64)).1.val, .int .i64 (entR S (entR S root (va / 16384)).1.mfn (va / 256 % 64)).2]) ∧ Mod No w' w2) := fun w' hm => follow_any _ _ w' (h.kept hm (fun q => q) (fun q => q))
  rw [he] at HF1
  generalize entR S (entR S root (va / 16384)).1.mfn (va / 256 % 64) = E2 at hy hw HF2 ⊢
  generalize (entR S root (va / 16384)).1 = E1 at HF1 HF2
  obtain ⟨p1, q1, m1⟩ := E1
  obtain ⟨⟨p2, q2, m2⟩, er⟩ := E2
  simp only [Ent.val] at hy hw HF1 HF2 ⊢
  subst hy hw hwr
  clear he h
  go_enter Try.func26, Try.ntmps26
  go_wp2
  refine wp_scope_fwd 0 rfl ?_
  go_wp2_with fail
  refine (HSZ.out _ (((Mod.refl No w).alloc _).alloc _)).mono ?_
  rintro e w2 ⟨rfl, rfl⟩
  go_wp2_with fail
  refine (HSP.out _).mono ?_
  rintro e w2 ⟨rfl, rfl⟩
  go_wp2_with fail
  refine (HF1.out _ (((Mod.refl No w).alloc _).alloc _)).mono ?_
  rintro e w2 ⟨rfl, hm2⟩
  have hb1 : w2.heap[w.heap.size]? = some (.cells ([.bool false, .bool false, .int .i64 0] : List Value).toArray 143 (0, 0)) := hm2.blk (blk_alloc (heap_alloc_new w _) _) (fun q => q)
  have hb2 : w2.heap[w.heap.size + 1]? = some (.cells ([.bool false, .bool false, .int .i64 0] : List Value).toArray 143 (0, 0)) := hm2.blk (by have := heap_alloc_new (w.alloc (.cells #[.bool false, .bool false, .int .i64 0] 143)) (.cells #[.bool false, .bool false, .int .i64 0] 143); rwa [World.size_alloc] at this) (fun q => q)
  have hm02 : Mod No w w2 := (((Mod.refl No w).alloc _).alloc _).trans hm2
  have x0 := row_cell hb1 0
  have x1 := row_cell hb1 1
  have x2 := row_cell hb1 2
  have xf0 := row_free hb1 0
  have xf1 := row_free hb1 1
  have xf2 := row_free hb1 2
  simp only [List.getElem?_cons_zero, List.getElem?_cons_succ] at x0 x1 x2
  have hl1 := lt_of_blk hb1
  have HM := Lib.hid (mod_set3 hm02 (Nat.le_refl _) (.bool p1) (.bool q1) (.int .i64 m1))
  have HB2 := Lib.hid (blk_set3 hb2 (show w.heap.size + 1 ≠ w.heap.size by omega) (.bool p1) (.bool q1) (.int .i64 m1))
  clear hm02 hm2 hb1 hb2
  go_wp2_with fail
  refine (HF2.out _ HM.out).mono ?_
  rintro e w4 ⟨rfl, hm4⟩
  have hb2 := hm4.blk HB2.out (fun q => q)
  have y0 := row_cell hb2 0
  have y1 := row_cell hb2 1
  have y2 := row_cell hb2 2
  have yf0 := row_free hb2 0
  have yf1 := row_free hb2 1
  have yf2 := row_free hb2 2
  simp only [List.getElem?_cons_zero, List.getElem?_cons_succ] at y0 y1 y2
  have HM2 := Lib.hid (HM.out.trans hm4)
  have hl2 := lt_of_blk hb2
  clear hm4 hb2 HM HB2
  go_wp2
  go_step3
  refine ⟨rfl, ?_⟩
  go_wp2
  rw [Exit.noGoto_ret]
  go_ret3
  exact ⟨rfl, mod_set3 HM2.out (Nat.le_succ _) _ _ _⟩

set_option maxHeartbeats 1600000 in
theorem walk_5 {B F : Nat} {S : List Fr} (root va : Int) (wr : Bool) (w : World) (h : PhM w B F S) (hv : 0 ≤ va) (hv2 : va < 1048576) (he : (entR S root (va / 16384)).2 = 0) (hy : (entR S (entR S root (va / 16384)).1.mfn (va / 256 % 64)).2 = 0) (hw : wr = false ∨ (entR S (entR S root (va / 16384)).1.mfn (va / 256 % 64)).1.write = true) (hs : (S.length : Int) ≤ (entR S (entR S root (va / 16384)).1.mfn (va / 256 % 64)).1.mfn) :
    Calls Try.prog 26 #[.pointer (some ⟨B, 0, none⟩), .int .i64 root, .int .u32 va, .bool wr] w fun e w' => e = .returned (.tuple #[.int .i64 0, .int .i64 0, .int .i64 1]) ∧ Mod No w w' := by
  have hlen := h.len
  have ds : ((S.length : Int) == 0) = false := beq_eq_false_iff_ne.2 (by omega)
  have HSZ : Hid (∀ w', Mod No w w' → Calls Try.prog 63 #[.pointer (some ⟨B, 0, none⟩)] w' fun e w2 => e = .returned (.int .i64 S.length) ∧ w' = w2) := fun w' hm => size_made w' (h.kept hm (fun q => q) (fun q => q))
  have HSP := Lib.hid (fun w' => split_yes va w' hv hv2)
  have HF1 : Hid (∀ w', Mod No w w' → Calls Try.prog 74 #[.pointer (some ⟨B, 0, none⟩), .int .i64 root, .int .i64 (va / 16384)] w' fun e w2 => e = .returned (.tuple #[(entR S root (va / 16384)).1.val, .int .i64 (entR S root (va / 16384)).2]) ∧ Mod No w' w2) := fun w' hm => follow_any _ _ w' (h.kept hm (fun q => q) (fun q => q))
  have HF2 : Hid (∀ w', Mod No w w' → Calls Try.prog 74 #[.pointer (some ⟨B, 0, none⟩), .int .i64 (entR S root (va / 16384)).1.mfn, .int .i64 (va / 256 % 64)] w' fun e w2 => e = .returned (.tuple #[(entR S (entR S root (va / 16384)).1.mfn (va / 256 % 64)).1.val, .int .i64 (entR S (entR S root (va / 16384)).1.mfn (va / 256 % 64)).2]) ∧ Mod No w' w2) := fun w' hm => follow_any _ _ w' (h.kept hm (fun q => q) (fun q => q))
  rw [he] at HF1
  generalize entR S (entR S root (va / 16384)).1.mfn (va / 256 % 64) = E2 at hy hw hs HF2 ⊢
  generalize (entR S root (va / 16384)).1 = E1 at HF1 HF2
  obtain ⟨p1, q1, m1⟩ := E1
  obtain ⟨⟨p2, q2, m2⟩, er⟩ := E2
  simp only [Ent.val] at hy hw hs HF1 HF2 ⊢
  subst hy
  have dm : decide ((S.length : Int) ≤ m2) = true := decide_eq_true (by omega)
  clear he h hs
  rcases hw with rfl | rfl
  · skip
    go_enter Try.func26, Try.ntmps26
    go_wp2
    refine wp_scope_fwd 0 rfl ?_
    go_wp2_with fail
    refine (HSZ.out _ (((Mod.refl No w).alloc _).alloc _)).mono ?_
    rintro e w2 ⟨rfl, rfl⟩
    go_wp2_with fail
    refine (HSP.out _).mono ?_
    rintro e w2 ⟨rfl, rfl⟩
    go_wp2_with fail
    refine (HF1.out _ (((Mod.refl No w).alloc _).alloc _)).mono ?_
    rintro e w2 ⟨rfl, hm2⟩
    have hb1 : w2.heap[w.heap.size]? = some (.cells ([.bool false, .bool false, .int .i64 0] : List Value).toArray 143 (0, 0)) := hm2.blk (blk_alloc (heap_alloc_new w _) _) (fun q => q)
    have hb2 : w2.heap[w.heap.size + 1]? = some (.cells ([.bool false, .bool false, .int .i64 0] : List Value).toArray 143 (0, 0)) := hm2.blk (by have := heap_alloc_new (w.alloc (.cells #[.bool false, .bool false, .int .i64 0] 143)) (.cells #[.bool false, .bool false, .int .i64 0] 143); rwa [World.size_alloc] at this) (fun q => q)
    have hm02 : Mod No w w2 := (((Mod.refl No w).alloc _).alloc _).trans hm2
    have x0 := row_cell hb1 0
    have x1 := row_cell hb1 1
    have x2 := row_cell hb1 2
    have xf0 := row_free hb1 0
    have xf1 := row_free hb1 1
    have xf2 := row_free hb1 2
    simp only [List.getElem?_cons_zero, List.getElem?_cons_succ] at x0 x1 x2
    have hl1 := lt_of_blk hb1
    have HM := Lib.hid (mod_set3 hm02 (Nat.le_refl _) (.bool p1) (.bool q1) (.int .i64 m1))
    have HB2 := Lib.hid (blk_set3 hb2 (show w.heap.size + 1 ≠ w.heap.size by omega) (.bool p1) (.bool q1) (.int .i64 m1))
    clear hm02 hm2 hb1 hb2
    go_wp2_with fail
    refine (HF2.out _ HM.out).mono ?_
    rintro e w4 ⟨rfl, hm4⟩
    have hb2 := hm4.blk HB2.out (fun q => q)
    have y0 := row_cell hb2 0
    have y1 := row_cell hb2 1
    have y2 := row_cell hb2 2
    have yf0 := row_free hb2 0
    have yf1 := row_free hb2 1
    have yf2 := row_free hb2 2
    simp only [List.getElem?_cons_zero, List.getElem?_cons_succ] at y0 y1 y2
    have HM2 := Lib.hid (HM.out.trans hm4)
    have hl2 := lt_of_blk hb2
    clear hm4 hb2 HM HB2
    go_wp2_with fail
    have HM3 := Lib.hid (mod_set3 HM2.out (Nat.le_succ _) (.bool p2) (.bool q2) (.int .i64 m2))
    clear HM2
    go_quiet ((go_at_call 63; exact Calls.quiet_of_same ((HSZ.out _ (HM3.out.drewN _)).mono fun e w2 q => ⟨q.1, q.2.symm⟩)))
    go_wp2
    go_step3
    refine ⟨rfl, ?_⟩
    go_wp2
    rw [Exit.noGoto_ret]
    go_ret3
    exact ⟨rfl, HM3.out.drewN _⟩
  · cases wr
    · skip
      go_enter Try.func26, Try.ntmps26
      go_wp2
      refine wp_scope_fwd 0 rfl ?_
      go_wp2_with fail
      refine (HSZ.out _ (((Mod.refl No w).alloc _).alloc _)).mono ?_
      rintro e w2 ⟨rfl, rfl⟩
      go_wp2_with fail
      refine (HSP.out _).mono ?_
      rintro e w2 ⟨rfl, rfl⟩
      go_wp2_with fail
      refine (HF1.out _ (((Mod.refl No w).alloc _).alloc _)).mono ?_
      rintro e w2 ⟨rfl, hm2⟩
      have hb1 : w2.heap[w.heap.size]? = some (.cells ([.bool false, .bool false, .int .i64 0] : List Value).toArray 143 (0, 0)) := hm2.blk (blk_alloc (heap_alloc_new w _) _) (fun q => q)
      have hb2 : w2.heap[w.heap.size + 1]? = some (.cells ([.bool false, .bool false, .int .i64 0] : List Value).toArray 143 (0, 0)) := hm2.blk (by have := heap_alloc_new (w.alloc (.cells #[.bool false, .bool false, .int .i64 0] 143)) (.cells #[.bool false, .bool false, .int .i64 0] 143); rwa [World.size_alloc] at this) (fun q => q)
      have hm02 : Mod No w w2 := (((Mod.refl No w).alloc _).alloc _).trans hm2
      have x0 := row_cell hb1 0
      have x1 := row_cell hb1 1
      have x2 := row_cell hb1 2
      have xf0 := row_free hb1 0
      have xf1 := row_free hb1 1
      have xf2 := row_free hb1 2
      simp only [List.getElem?_cons_zero, List.getElem?_cons_succ] at x0 x1 x2
      have hl1 := lt_of_blk hb1
      have HM := Lib.hid (mod_set3 hm02 (Nat.le_refl _) (.bool p1) (.bool q1) (.int .i64 m1))
      have HB2 := Lib.hid (blk_set3 hb2 (show w.heap.size + 1 ≠ w.heap.size by omega) (.bool p1) (.bool q1) (.int .i64 m1))
      clear hm02 hm2 hb1 hb2
      go_wp2_with fail
      refine (HF2.out _ HM.out).mono ?_
      rintro e w4 ⟨rfl, hm4⟩
      have hb2 := hm4.blk HB2.out (fun q => q)
      have y0 := row_cell hb2 0
      have y1 := row_cell hb2 1
      have y2 := row_cell hb2 2
      have yf0 := row_free hb2 0
      have yf1 := row_free hb2 1
      have yf2 := row_free hb2 2
      simp only [List.getElem?_cons_zero, List.getElem?_cons_succ] at y0 y1 y2
      have HM2 := Lib.hid (HM.out.trans hm4)
      have hl2 := lt_of_blk hb2
      clear hm4 hb2 HM HB2
      go_wp2_with fail
      have HM3 := Lib.hid (mod_set3 HM2.out (Nat.le_succ _) (.bool p2) (.bool true) (.int .i64 m2))
      clear HM2
      go_quiet ((go_at_call 63; exact Calls.quiet_of_same ((HSZ.out _ (HM3.out.drewN _)).mono fun e w2 q => ⟨q.1, q.2.symm⟩)))
      go_wp2
      go_step3
      refine ⟨rfl, ?_⟩
      go_wp2
      rw [Exit.noGoto_ret]
      go_ret3
      exact ⟨rfl, HM3.out.drewN _⟩
    · skip
      go_enter Try.func26, Try.ntmps26
      go_wp2
      refine wp_scope_fwd 0 rfl ?_
      go_wp2_with fail
      refine (HSZ.out _ (((Mod.refl No w).alloc _).alloc _)).mono ?_
      rintro e w2 ⟨rfl, rfl⟩
      go_wp2_with fail
      refine (HSP.out _).mono ?_
      rintro e w2 ⟨rfl, rfl⟩
      go_wp2_with fail
      refine (HF1.out _ (((Mod.refl No w).alloc _).alloc _)).mono ?_
      rintro e w2 ⟨rfl, hm2⟩
      have hb1 : w2.heap[w.heap.size]? = some (.cells ([.bool false, .bool false, .int .i64 0] : List Value).toArray 143 (0, 0)) := hm2.blk (blk_alloc (heap_alloc_new w _) _) (fun q => q)
      have hb2 : w2.heap[w.heap.size + 1]? = some (.cells ([.bool false, .bool false, .int .i64 0] : List Value).toArray 143 (0, 0)) := hm2.blk (by have := heap_alloc_new (w.alloc (.cells #[.bool false, .bool false, .int .i64 0] 143)) (.cells #[.bool false, .bool false, .int .i64 0] 143); rwa [World.size_alloc] at this) (fun q => q)
      have hm02 : Mod No w w2 := (((Mod.refl No w).alloc _).alloc _).trans hm2
      have x0 := row_cell hb1 0
      have x1 := row_cell hb1 1
      have x2 := row_cell hb1 2
      have xf0 := row_free hb1 0
      have xf1 := row_free hb1 1
      have xf2 := row_free hb1 2
      simp only [List.getElem?_cons_zero, List.getElem?_cons_succ] at x0 x1 x2
      have hl1 := lt_of_blk hb1
      have HM := Lib.hid (mod_set3 hm02 (Nat.le_refl _) (.bool p1) (.bool q1) (.int .i64 m1))
      have HB2 := Lib.hid (blk_set3 hb2 (show w.heap.size + 1 ≠ w.heap.size by omega) (.bool p1) (.bool q1) (.int .i64 m1))
      clear hm02 hm2 hb1 hb2
      go_wp2_with fail
      refine (HF2.out _ HM.out).mono ?_
      rintro e w4 ⟨rfl, hm4⟩
      have hb2 := hm4.blk HB2.out (fun q => q)
      have y0 := row_cell hb2 0
      have y1 := row_cell hb2 1
      have y2 := row_cell hb2 2
      have yf0 := row_free hb2 0
      have yf1 := row_free hb2 1
      have yf2 := row_free hb2 2
      simp only [List.getElem?_cons_zero, List.getElem?_cons_succ] at y0 y1 y2
      have HM2 := Lib.hid (HM.out.trans hm4)
      have hl2 := lt_of_blk hb2
      clear hm4 hb2 HM HB2
      go_wp2_with fail
      have HM3 := Lib.hid (mod_set3 HM2.out (Nat.le_succ _) (.bool p2) (.bool true) (.int .i64 m2))
      clear HM2
      go_quiet ((go_at_call 63; exact Calls.quiet_of_same ((HSZ.out _ (HM3.out.drewN _)).mono fun e w2 q => ⟨q.1, q.2.symm⟩)))
      go_wp2
      go_step3
      refine ⟨rfl, ?_⟩
      go_wp2
      rw [Exit.noGoto_ret]
      go_ret3
      exact ⟨rfl, HM3.out.drewN _⟩

set_option maxHeartbeats 1600000 in
theorem walk_6 {B F : Nat} {S : List Fr} (root va : Int) (wr : Bool) (w : World) (h : PhM w B F S) (hv : 0 ≤ va) (hv2 : va < 1048576) (he : (entR S root (va / 16384)).2 = 0) (hy : (entR S (entR S root (va / 16384)).1.mfn (va / 256 % 64)).2 = 0) (hw : wr = false ∨ (entR S (entR S root (va / 16384)).1.mfn (va / 256 % 64)).1.write = true) (hs : (entR S (entR S root (va / 16384)).1.mfn (va / 256 % 64)).1.mfn < (S.length : Int)) :
    Calls Try.prog 26 #[.pointer (some ⟨B, 0, none⟩), .int .i64 root, .int .u32 va, .bool wr] w fun e w' => e = .returned (.tuple #[.int .i64 (entR S (entR S root (va / 16384)).1.mfn (va / 256 % 64)).1.mfn, .int .i64 (va % 256), .int .i64 0]) ∧ Mod No w w' := by
  have hlen := h.len
  have ds : ((S.length : Int) == 0) = false := beq_eq_false_iff_ne.2 (by omega)
  have HSZ : Hid (∀ w', Mod No w w' → Calls Try.prog 63 #[.pointer (some ⟨B, 0, none⟩)] w' fun e w2 => e = .returned (.int .i64 S.length) ∧ w' = w2) := fun w' hm => size_made w' (h.kept hm (fun q => q) (fun q => q))
  have HSP := Lib.hid (fun w' => split_yes va w' hv hv2)
  have HF1 : Hid (∀ w', Mod No w w' → Calls Try.prog 74 #[.pointer (some ⟨B, 0, none⟩), .int .i64 root, .int .i64 (va / 16384)] w' fun e w2 => e = .returned (.tuple #[(entR S root (va / 16384)).1.val, .int .i64 (entR S root (va / 16384)).2]) ∧ Mod No w' w2) := fun w' hm => follow_any _ _ w' (h.kept hm (fun q => q) (fun q => q))
  have HF2 : Hid (∀ w', Mod No w w' → Calls Try.prog 74 #[.pointer (some ⟨B, 0, none⟩), .int .i64 (entR S root (va / 16384)).1.mfn, .int .i64 (va / 256 % 64)] w' fun e w2 => e = .returned (.tuple #[(entR S (entR S root (va / 16384)).1.mfn (va / 256 % 64)).1.val, .int .i64 (entR S (entR S root (va / 16384)).1.mfn (va / 256 % 64)).2]) ∧ Mod No w' w2) := fun w' hm => follow_any _ _ w' (h.kept hm (fun q => q) (fun q => q))
  rw [he] at HF1
  generalize entR S (entR S root (va / 16384)).1.mfn (va / 256 % 64) = E2 at hy hw hs HF2 ⊢
  generalize (entR S root (va / 16384)).1 = E1 at HF1 HF2
  obtain ⟨p1, q1, m1⟩ := E1
  obtain ⟨⟨p2, q2, m2⟩, er⟩ := E2
  simp only [Ent.val] at hy hw hs HF1 HF2 ⊢
  subst hy
  have dm : decide ((S.length : Int) ≤ m2) = false := decide_eq_false (by omega)
  clear he h hs
  rcases hw with rfl | rfl
  · skip
    go_enter Try.func26, Try.ntmps26
    go_wp2
    refine wp_scope_fwd 0 rfl ?_
    go_wp2_with fail
    refine (HSZ.out _ (((Mod.refl No w).alloc _).alloc _)).mono ?_
    rintro e w2 ⟨rfl, rfl⟩
    go_wp2_with fail
    refine (HSP.out _).mono ?_
    rintro e w2 ⟨rfl, rfl⟩
    go_wp2_with fail
    refine (HF1.out _ (((Mod.refl No w).alloc _).alloc _)).mono ?_
    rintro e w2 ⟨rfl, hm2⟩
    have hb1 : w2.heap[w.heap.size]? = some (.cells ([.bool false, .bool false, .int .i64 0] : List Value).toArray 143 (0, 0)) := hm2.blk (blk_alloc (heap_alloc_new w _) _) (fun q => q)
    have hb2 : w2.heap[w.heap.size + 1]? = some (.cells ([.bool false, .bool false, .int .i64 0] : List Value).toArray 143 (0, 0)) := hm2.blk (by have := heap_alloc_new (w.alloc (.cells #[.bool false, .bool false, .int .i64 0] 143)) (.cells #[.bool false, .bool false, .int .i64 0] 143); rwa [World.size_alloc] at this) (fun q => q)
    have hm02 : Mod No w w2 := (((Mod.refl No w).alloc _).alloc _).trans hm2
    have x0 := row_cell hb1 0
    have x1 := row_cell hb1 1
    have x2 := row_cell hb1 2
    have xf0 := row_free hb1 0
    have xf1 := row_free hb1 1
    have xf2 := row_free hb1 2
    simp only [List.getElem?_cons_zero, List.getElem?_cons_succ] at x0 x1 x2
    have hl1 := lt_of_blk hb1
    have HM := Lib.hid (mod_set3 hm02 (Nat.le_refl _) (.bool p1) (.bool q1) (.int .i64 m1))
    have HB2 := Lib.hid (blk_set3 hb2 (show w.heap.size + 1 ≠ w.heap.size by omega) (.bool p1) (.bool q1) (.int .i64 m1))
    clear hm02 hm2 hb1 hb2
    go_wp2_with fail
    refine (HF2.out _ HM.out).mono ?_
    rintro e w4 ⟨rfl, hm4⟩
    have hb2 := hm4.blk HB2.out (fun q => q)
    have y0 := row_cell hb2 0
    have y1 := row_cell hb2 1
    have y2 := row_cell hb2 2
    have yf0 := row_free hb2 0
    have yf1 := row_free hb2 1
    have yf2 := row_free hb2 2
    simp only [List.getElem?_cons_zero, List.getElem?_cons_succ] at y0 y1 y2
    have HM2 := Lib.hid (HM.out.trans hm4)
    have hl2 := lt_of_blk hb2
    clear hm4 hb2 HM HB2
    go_wp2_with fail
    have HM3 := Lib.hid (mod_set3 HM2.out (Nat.le_succ _) (.bool p2) (.bool q2) (.int .i64 m2))
    clear HM2
    go_quiet ((go_at_call 63; exact Calls.quiet_of_same ((HSZ.out _ (HM3.out.drewN _)).mono fun e w2 q => ⟨q.1, q.2.symm⟩)))
    go_wp2
    simp only [Exit.jump]
    go_ret3
    exact ⟨rfl, HM3.out.drewN _⟩
  · cases wr
    · skip
      go_enter Try.func26, Try.ntmps26
      go_wp2
      refine wp_scope_fwd 0 rfl ?_
      go_wp2_with fail
      refine (HSZ.out _ (((Mod.refl No w).alloc _).alloc _)).mono ?_
      rintro e w2 ⟨rfl, rfl⟩
      go_wp2_with fail
      refine (HSP.out _).mono ?_
      rintro e w2 ⟨rfl, rfl⟩
      go_wp2_with fail
      refine (HF1.out _ (((Mod.refl No w).alloc _).alloc _)).mono ?_
      rintro e w2 ⟨rfl, hm2⟩
      have hb1 : w2.heap[w.heap.size]? = some (.cells ([.bool false, .bool false, .int .i64 0] : List Value).toArray 143 (0, 0)) := hm2.blk (blk_alloc (heap_alloc_new w _) _) (fun q => q)
      have hb2 : w2.heap[w.heap.size + 1]? = some (.cells ([.bool false, .bool false, .int .i64 0] : List Value).toArray 143 (0, 0)) := hm2.blk (by have := heap_alloc_new (w.alloc (.cells #[.bool false, .bool false, .int .i64 0] 143)) (.cells #[.bool false, .bool false, .int .i64 0] 143); rwa [World.size_alloc] at this) (fun q => q)
      have hm02 : Mod No w w2 := (((Mod.refl No w).alloc _).alloc _).trans hm2
      have x0 := row_cell hb1 0
      have x1 := row_cell hb1 1
      have x2 := row_cell hb1 2
      have xf0 := row_free hb1 0
      have xf1 := row_free hb1 1
      have xf2 := row_free hb1 2
      simp only [List.getElem?_cons_zero, List.getElem?_cons_succ] at x0 x1 x2
      have hl1 := lt_of_blk hb1
      have HM := Lib.hid (mod_set3 hm02 (Nat.le_refl _) (.bool p1) (.bool q1) (.int .i64 m1))
      have HB2 := Lib.hid (blk_set3 hb2 (show w.heap.size + 1 ≠ w.heap.size by omega) (.bool p1) (.bool q1) (.int .i64 m1))
      clear hm02 hm2 hb1 hb2
      go_wp2_with fail
      refine (HF2.out _ HM.out).mono ?_
      rintro e w4 ⟨rfl, hm4⟩
      have hb2 := hm4.blk HB2.out (fun q => q)
      have y0 := row_cell hb2 0
      have y1 := row_cell hb2 1
      have y2 := row_cell hb2 2
      have yf0 := row_free hb2 0
      have yf1 := row_free hb2 1
      have yf2 := row_free hb2 2
      simp only [List.getElem?_cons_zero, List.getElem?_cons_succ] at y0 y1 y2
      have HM2 := Lib.hid (HM.out.trans hm4)
      have hl2 := lt_of_blk hb2
      clear hm4 hb2 HM HB2
      go_wp2_with fail
      have HM3 := Lib.hid (mod_set3 HM2.out (Nat.le_succ _) (.bool p2) (.bool true) (.int .i64 m2))
      clear HM2
      go_quiet ((go_at_call 63; exact Calls.quiet_of_same ((HSZ.out _ (HM3.out.drewN _)).mono fun e w2 q => ⟨q.1, q.2.symm⟩)))
      go_wp2
      simp only [Exit.jump]
      go_ret3
      exact ⟨rfl, HM3.out.drewN _⟩
    · skip
      go_enter Try.func26, Try.ntmps26
      go_wp2
      refine wp_scope_fwd 0 rfl ?_
      go_wp2_with fail
      refine (HSZ.out _ (((Mod.refl No w).alloc _).alloc _)).mono ?_
      rintro e w2 ⟨rfl, rfl⟩
      go_wp2_with fail
      refine (HSP.out _).mono ?_
      rintro e w2 ⟨rfl, rfl⟩
      go_wp2_with fail
      refine (HF1.out _ (((Mod.refl No w).alloc _).alloc _)).mono ?_
      rintro e w2 ⟨rfl, hm2⟩
      have hb1 : w2.heap[w.heap.size]? = some (.cells ([.bool false, .bool false, .int .i64 0] : List Value).toArray 143 (0, 0)) := hm2.blk (blk_alloc (heap_alloc_new w _) _) (fun q => q)
      have hb2 : w2.heap[w.heap.size + 1]? = some (.cells ([.bool false, .bool false, .int .i64 0] : List Value).toArray 143 (0, 0)) := hm2.blk (by have := heap_alloc_new (w.alloc (.cells #[.bool false, .bool false, .int .i64 0] 143)) (.cells #[.bool false, .bool false, .int .i64 0] 143); rwa [World.size_alloc] at this) (fun q => q)
      have hm02 : Mod No w w2 := (((Mod.refl No w).alloc _).alloc _).trans hm2
      have x0 := row_cell hb1 0
      have x1 := row_cell hb1 1
      have x2 := row_cell hb1 2
      have xf0 := row_free hb1 0
      have xf1 := row_free hb1 1
      have xf2 := row_free hb1 2
      simp only [List.getElem?_cons_zero, List.getElem?_cons_succ] at x0 x1 x2
      have hl1 := lt_of_blk hb1
      have HM := Lib.hid (mod_set3 hm02 (Nat.le_refl _) (.bool p1) (.bool q1) (.int .i64 m1))
      have HB2 := Lib.hid (blk_set3 hb2 (show w.heap.size + 1 ≠ w.heap.size by omega) (.bool p1) (.bool q1) (.int .i64 m1))
      clear hm02 hm2 hb1 hb2
      go_wp2_with fail
      refine (HF2.out _ HM.out).mono ?_
      rintro e w4 ⟨rfl, hm4⟩
      have hb2 := hm4.blk HB2.out (fun q => q)
      have y0 := row_cell hb2 0
      have y1 := row_cell hb2 1
      have y2 := row_cell hb2 2
      have yf0 := row_free hb2 0
      have yf1 := row_free hb2 1
      have yf2 := row_free hb2 2
      simp only [List.getElem?_cons_zero, List.getElem?_cons_succ] at y0 y1 y2
      have HM2 := Lib.hid (HM.out.trans hm4)
      have hl2 := lt_of_blk hb2
      clear hm4 hb2 HM HB2
      go_wp2_with fail
      have HM3 := Lib.hid (mod_set3 HM2.out (Nat.le_succ _) (.bool p2) (.bool true) (.int .i64 m2))
      clear HM2
      go_quiet ((go_at_call 63; exact Calls.quiet_of_same ((HSZ.out _ (HM3.out.drewN _)).mono fun e w2 q => ⟨q.1, q.2.symm⟩)))
      go_wp2
      simp only [Exit.jump]
      go_ret3
      exact ⟨rfl, HM3.out.drewN _⟩

end Go.Proofs.Ytlaamkojkpamaaa
