/- Where an address leads: the document's; both. (Printed by wip/gen_walk.py.) -/
import Derived.Test.YtlaamkojkpamaaaPteWalk
namespace Go.Proofs.Ytlaamkojkpamaaa
open Go.RowKit
set_option maxRecDepth 100000

set_option maxHeartbeats 1600000 in
theorem rwalk_1 {K : RfK} (root va : Int) (wr : Bool) (w : World) (hv : 1048576 ≤ va) :
    Calls Try.prog 27 #[.pointer (some ⟨K.R, 0, none⟩), .int .i64 root, .int .u32 va, .bool wr] w fun e w' => e = .returned (.tuple #[.int .i64 0, .int .i64 0, .int .i64 1]) ∧ Mod No w w' := by
  have HSP := Lib.hid (fun w' => rsplit_no va w' hv)
  clear hv
  go_enter Try.func27, Try.ntmps27
  go_wp2_with fail
  refine (HSP.out _).mono ?_
  rintro e w2 ⟨rfl, rfl⟩
  go_wp2
  go_ret3
  exact ⟨rfl, Mod.refl _ _⟩

set_option maxHeartbeats 1600000 in
theorem rwalk_2 {K : RfK} {S : List Fr} (root va : Int) (wr : Bool) (w : World) (h : RfM w K S) (hv : 0 ≤ va) (hv2 : va < 1048576) (he : (entR S root (va / 16384)).2 ≠ 0) :
    Calls Try.prog 27 #[.pointer (some ⟨K.R, 0, none⟩), .int .i64 root, .int .u32 va, .bool wr] w fun e w' => e = .returned (.tuple #[.int .i64 0, .int .i64 0, .int .i64 (entR S root (va / 16384)).2]) ∧ Mod No w w' := by
  have HSP := Lib.hid (fun w' => rsplit_yes va w' hv hv2)
  have HF1 : Hid (∀ w', Mod No w w' → Calls Try.prog 76 #[.pointer (some ⟨K.R, 0, none⟩), .int .i64 root, .int .i64 (va / 16384)] w' fun e w2 => e = .returned (.tuple #[(entR S root (va / 16384)).1.val, .int .i64 (entR S root (va / 16384)).2]) ∧ Mod No w' w2) := fun w' hm => rentry_any _ _ w' (h.keptNo hm)
  generalize (entR S root (va / 16384)).2 = er at he HF1 ⊢
  generalize (entR S root (va / 16384)).1 = E1 at HF1
  obtain ⟨p1, q1, m1⟩ := E1
  have de : (er != 0) = true := bne_iff_ne.2 he
  simp only [Ent.val] at HF1
  clear he h
  go_enter Try.func27, Try.ntmps27
  go_wp2_with fail
  refine (HSP.out _).mono ?_
  rintro e w2 ⟨rfl, rfl⟩
  go_wp2_with fail
  refine (HF1.out _ (Mod.refl No w)).mono ?_
  rintro e w2 ⟨rfl, hm2⟩
  have HM := Lib.hid (hm2.alloc (.cells #[.bool p1, .bool q1, .int .i64 m1] 143))
  clear hm2
  go_wp2
  go_ret3
  exact ⟨rfl, HM.out⟩

set_option maxHeartbeats 1600000 in
theorem rwalk_3 {K : RfK} {S : List Fr} (root va : Int) (wr : Bool) (w : World) (h : RfM w K S) (hv : 0 ≤ va) (hv2 : va < 1048576) (he : (entR S root (va / 16384)).2 = 0) (hy : (entR S (entR S root (va / 16384)).1.mfn (va / 256 % 64)).2 ≠ 0) :
    Calls Try.prog 27 #[.pointer (some ⟨K.R, 0, none⟩), .int .i64 root, .int .u32 va, .bool wr] w fun e w' => e = .returned (.tuple #[.int .i64 0, .int .i64 0, .int .i64 (entR S (entR S root (va / 16384)).1.mfn (va / 256 % 64)).2]) ∧ Mod No w w' := by
  have HSP := Lib.hid (fun w' => rsplit_yes va w' hv hv2)
  have HF1 : Hid (∀ w', Mod No w w' → Calls Try.prog 76 #[.pointer (some ⟨K.R, 0, none⟩), .int .i64 root, .int .i64 (va / 16384)] w' fun e w2 => e = .returned (.tuple #[(entR S root (va / 16384)).1.val, .int .i64 (entR S root (va / 16384)).2]) ∧ Mod No w' w2) := fun w' hm => rentry_any _ _ w' (h.keptNo hm)
  have HF2 : Hid (∀ w', Mod No w w' → Calls Try.prog 76 #[.pointer (some ⟨K.R, 0, none⟩), .int .i64 (entR S root (va / 16384)).1.mfn, .int .i64 (va / 256 % 64)] w' fun e w2 => e = .returned (.tuple #[(entR S (entR S root (va / 16384)).1.mfn (va / 256 % 64)).1.val, .int .i64 (entR S (entR S root (va / 16384)).1.mfn (va / 256 % 64)).2]) ∧ Mod No w' w2) := fun w' hm => rentry_any _ _ w' (h.keptNo hm)
  rw [he] at HF1
  have hge := entR_ok h.ok (entR S root (va / 16384)).1.mfn (va / 256 % 64)
  generalize entR S (entR S root (va / 16384)).1.mfn (va / 256 % 64) = E2 at hge hy HF2 ⊢
  generalize (entR S root (va / 16384)).1 = E1 at HF1 HF2
  obtain ⟨p1, q1, m1⟩ := E1
  obtain ⟨⟨p2, q2, m2⟩, er⟩ := E2
  simp only [Ent.val] at hge hy HF1 HF2 ⊢
  have de : (er != 0) = true := bne_iff_ne.2 hy
  clear he h hy
  go_enter Try.func27, Try.ntmps27
  go_wp2_with fail
  refine (HSP.out _).mono ?_
  rintro e w2 ⟨rfl, rfl⟩
  go_wp2_with fail
  refine (HF1.out _ (Mod.refl No w)).mono ?_
  rintro e w2 ⟨rfl, hm2⟩
  have HM := Lib.hid (hm2.alloc (.cells #[.bool p1, .bool q1, .int .i64 m1] 143))
  clear hm2
  go_wp2_with fail
  refine (HF2.out _ HM.out).mono ?_
  rintro e w4 ⟨rfl, hm4⟩
  have HM2 := Lib.hid ((HM.out.trans hm4).alloc (.cells #[.bool p2, .bool q2, .int .i64 m2] 143))
  clear hm4 HM
  go_wp2
  go_ret3
  exact ⟨rfl, HM2.out⟩

set_option maxHeartbeats 1600000 in
theorem rwalk_4 {K : RfK} {S : List Fr} (root va : Int) (wr : Bool) (w : World) (h : RfM w K S) (hv : 0 ≤ va) (hv2 : va < 1048576) (he : (entR S root (va / 16384)).2 = 0) (hy : (entR S (entR S root (va / 16384)).1.mfn (va / 256 % 64)).2 = 0) (hw : (entR S (entR S root (va / 16384)).1.mfn (va / 256 % 64)).1.write = false) (hwr : wr = true) :
    Calls Try.prog 27 #[.pointer (some ⟨K.R, 0, none⟩), .int .i64 root, .int .u32 va, .bool wr] w fun e w' => e = .returned (.tuple #[.int .i64 0, .int .i64 0, .int .i64 41]) ∧ Mod No w w' := by
  have HSP := Lib.hid (fun w' => rsplit_yes va w' hv hv2)
  have HF1 : Hid (∀ w', Mod No w w' → Calls Try.prog 76 #[.pointer (some ⟨K.R, 0, none⟩), .int .i64 root, .int .i64 (va / 16384)] w' fun e w2 => e = .returned (.tuple #[(entR S root (va / 16384)).1.val, .int .i64 (entR S root (va / 16384)).2]) ∧ Mod No w' w2) := fun w' hm => rentry_any _ _ w' (h.keptNo hm)
  have HF2 : Hid (∀ w', Mod No w w' → Calls Try.prog 76 #[.pointer (some ⟨K.R, 0, none⟩), .int .i64 (entR S root (va / 16384)).1.mfn, .int .i64 (va / 256 % 64)] w' fun e w2 => e = .returned (.tuple #[(entR S (entR S root (va / 16384)).1.mfn (va / 256 % 64)).1.val, .int .i64 (entR S (entR S root (va / 16384)).1.mfn (va / 256 % 64)).2]) ∧ Mod No w' w2) := fun w' hm => rentry_any _ _ w' (h.keptNo hm)
  rw [he] at HF1
  have hge := entR_ok h.ok (entR S root (va / 16384)).1.mfn (va / 256 % 64)
  generalize entR S (entR S root (va / 16384)).1.mfn (va / 256 % 64) = E2 at hge hy hw HF2 ⊢
  generalize (entR S root (va / 16384)).1 = E1 at HF1 HF2
  obtain ⟨p1, q1, m1⟩ := E1
  obtain ⟨⟨p2, q2, m2⟩, er⟩ := E2
  simp only [Ent.val] at hge hy hw HF1 HF2 ⊢
  subst hy hw hwr
  clear he h
  go_enter Try.func27, Try.ntmps27
  go_wp2_with fail
  refine (HSP.out _).mono ?_
  rintro e w2 ⟨rfl, rfl⟩
  go_wp2_with fail
  refine (HF1.out _ (Mod.refl No w)).mono ?_
  rintro e w2 ⟨rfl, hm2⟩
  have HM := Lib.hid (hm2.alloc (.cells #[.bool p1, .bool q1, .int .i64 m1] 143))
  clear hm2
  go_wp2_with fail
  refine (HF2.out _ HM.out).mono ?_
  rintro e w4 ⟨rfl, hm4⟩
  have HM2 := Lib.hid ((HM.out.trans hm4).alloc (.cells #[.bool p2, .bool false, .int .i64 m2] 143))
  clear hm4 HM
  go_wp2
  go_ret3
  exact ⟨rfl, HM2.out⟩

set_option maxHeartbeats 1600000 in
theorem rwalk_5 {K : RfK} {S : List Fr} (root va : Int) (wr : Bool) (w : World) (h : RfM w K S) (hv : 0 ≤ va) (hv2 : va < 1048576) (he : (entR S root (va / 16384)).2 = 0) (hy : (entR S (entR S root (va / 16384)).1.mfn (va / 256 % 64)).2 = 0) (hw : wr = false ∨ (entR S (entR S root (va / 16384)).1.mfn (va / 256 % 64)).1.write = true) (hs : (S.length : Int) ≤ (entR S (entR S root (va / 16384)).1.mfn (va / 256 % 64)).1.mfn) :
    Calls Try.prog 27 #[.pointer (some ⟨K.R, 0, none⟩), .int .i64 root, .int .u32 va, .bool wr] w fun e w' => e = .returned (.tuple #[.int .i64 0, .int .i64 0, .int .i64 1]) ∧ Mod No w w' := by
  have HSP := Lib.hid (fun w' => rsplit_yes va w' hv hv2)
  have HF1 : Hid (∀ w', Mod No w w' → Calls Try.prog 76 #[.pointer (some ⟨K.R, 0, none⟩), .int .i64 root, .int .i64 (va / 16384)] w' fun e w2 => e = .returned (.tuple #[(entR S root (va / 16384)).1.val, .int .i64 (entR S root (va / 16384)).2]) ∧ Mod No w' w2) := fun w' hm => rentry_any _ _ w' (h.keptNo hm)
  have HF2 : Hid (∀ w', Mod No w w' → Calls Try.prog 76 #[.pointer (some ⟨K.R, 0, none⟩), .int .i64 (entR S root (va / 16384)).1.mfn, .int .i64 (va / 256 % 64)] w' fun e w2 => e = .returned (.tuple #[(entR S (entR S root (va / 16384)).1.mfn (va / 256 % 64)).1.val, .int .i64 (entR S (entR S root (va / 16384)).1.mfn (va / 256 % 64)).2]) ∧ Mod No w' w2) := fun w' hm => rentry_any _ _ w' (h.keptNo hm)
  rw [he] at HF1
  have hge := entR_ok h.ok (entR S root (va / 16384)).1.mfn (va / 256 % 64)
  generalize entR S (entR S root (va / 16384)).1.mfn (va / 256 % 64) = E2 at hge hy hw hs HF2 ⊢
  generalize (entR S root (va / 16384)).1 = E1 at HF1 HF2
  obtain ⟨p1, q1, m1⟩ := E1
  obtain ⟨⟨p2, q2, m2⟩, er⟩ := E2
  simp only [Ent.val] at hge hy hw hs HF1 HF2 ⊢
  subst hy
  have HIS : Hid (∀ w', Mod No w w' → Calls Try.prog 72 #[.pointer (some ⟨K.R, 0, none⟩), .int .i64 m2] w' fun e w2 => e = .returned (.bool false) ∧ w' = w2) := fun w' hm => ris_out m2 w' (h.keptNo hm) (.inr hs)
  clear he h hs
  rcases hw with rfl | rfl
  · skip
    go_enter Try.func27, Try.ntmps27
    go_wp2_with fail
    refine (HSP.out _).mono ?_
    rintro e w2 ⟨rfl, rfl⟩
    go_wp2_with fail
    refine (HF1.out _ (Mod.refl No w)).mono ?_
    rintro e w2 ⟨rfl, hm2⟩
    have HM := Lib.hid (hm2.alloc (.cells #[.bool p1, .bool q1, .int .i64 m1] 143))
    clear hm2
    go_wp2_with fail
    refine (HF2.out _ HM.out).mono ?_
    rintro e w4 ⟨rfl, hm4⟩
    have HM2 := Lib.hid ((HM.out.trans hm4).alloc (.cells #[.bool p2, .bool q2, .int .i64 m2] 143))
    clear hm4 HM
    go_wp2_with fail
    refine (HIS.out _ HM2.out).mono ?_
    rintro e w5 ⟨rfl, rfl⟩
    go_wp2
    go_ret3
    exact ⟨rfl, HM2.out⟩
  · cases wr
    · skip
      go_enter Try.func27, Try.ntmps27
      go_wp2_with fail
      refine (HSP.out _).mono ?_
      rintro e w2 ⟨rfl, rfl⟩
      go_wp2_with fail
      refine (HF1.out _ (Mod.refl No w)).mono ?_
      rintro e w2 ⟨rfl, hm2⟩
      have HM := Lib.hid (hm2.alloc (.cells #[.bool p1, .bool q1, .int .i64 m1] 143))
      clear hm2
      go_wp2_with fail
      refine (HF2.out _ HM.out).mono ?_
      rintro e w4 ⟨rfl, hm4⟩
      have HM2 := Lib.hid ((HM.out.trans hm4).alloc (.cells #[.bool p2, .bool true, .int .i64 m2] 143))
      clear hm4 HM
      go_wp2_with fail
      refine (HIS.out _ HM2.out).mono ?_
      rintro e w5 ⟨rfl, rfl⟩
      go_wp2
      go_ret3
      exact ⟨rfl, HM2.out⟩
    · skip
      go_enter Try.func27, Try.ntmps27
      go_wp2_with fail
      refine (HSP.out _).mono ?_
      rintro e w2 ⟨rfl, rfl⟩
      go_wp2_with fail
      refine (HF1.out _ (Mod.refl No w)).mono ?_
      rintro e w2 ⟨rfl, hm2⟩
      have HM := Lib.hid (hm2.alloc (.cells #[.bool p1, .bool q1, .int .i64 m1] 143))
      clear hm2
      go_wp2_with fail
      refine (HF2.out _ HM.out).mono ?_
      rintro e w4 ⟨rfl, hm4⟩
      have HM2 := Lib.hid ((HM.out.trans hm4).alloc (.cells #[.bool p2, .bool true, .int .i64 m2] 143))
      clear hm4 HM
      go_wp2_with fail
      refine (HIS.out _ HM2.out).mono ?_
      rintro e w5 ⟨rfl, rfl⟩
      go_wp2
      go_ret3
      exact ⟨rfl, HM2.out⟩

set_option maxHeartbeats 1600000 in
theorem rwalk_6 {K : RfK} {S : List Fr} (root va : Int) (wr : Bool) (w : World) (h : RfM w K S) (hv : 0 ≤ va) (hv2 : va < 1048576) (he : (entR S root (va / 16384)).2 = 0) (hy : (entR S (entR S root (va / 16384)).1.mfn (va / 256 % 64)).2 = 0) (hw : wr = false ∨ (entR S (entR S root (va / 16384)).1.mfn (va / 256 % 64)).1.write = true) (hs : (entR S (entR S root (va / 16384)).1.mfn (va / 256 % 64)).1.mfn < (S.length : Int)) :
    Calls Try.prog 27 #[.pointer (some ⟨K.R, 0, none⟩), .int .i64 root, .int .u32 va, .bool wr] w fun e w' => e = .returned (.tuple #[.int .i64 (entR S (entR S root (va / 16384)).1.mfn (va / 256 % 64)).1.mfn, .int .i64 (va % 256), .int .i64 0]) ∧ Mod No w w' := by
  have HSP := Lib.hid (fun w' => rsplit_yes va w' hv hv2)
  have HF1 : Hid (∀ w', Mod No w w' → Calls Try.prog 76 #[.pointer (some ⟨K.R, 0, none⟩), .int .i64 root, .int .i64 (va / 16384)] w' fun e w2 => e = .returned (.tuple #[(entR S root (va / 16384)).1.val, .int .i64 (entR S root (va / 16384)).2]) ∧ Mod No w' w2) := fun w' hm => rentry_any _ _ w' (h.keptNo hm)
  have HF2 : Hid (∀ w', Mod No w w' → Calls Try.prog 76 #[.pointer (some ⟨K.R, 0, none⟩), .int .i64 (entR S root (va / 16384)).1.mfn, .int .i64 (va / 256 % 64)] w' fun e w2 => e = .returned (.tuple #[(entR S (entR S root (va / 16384)).1.mfn (va / 256 % 64)).1.val, .int .i64 (entR S (entR S root (va / 16384)).1.mfn (va / 256 % 64)).2]) ∧ Mod No w' w2) := fun w' hm => rentry_any _ _ w' (h.keptNo hm)
  rw [he] at HF1
  have hge := entR_ok h.ok (entR S root (va / 16384)).1.mfn (va / 256 % 64)
  generalize entR S (entR S root (va / 16384)).1.mfn (va / 256 % 64) = E2 at hge hy hw hs HF2 ⊢
  generalize (entR S root (va / 16384)).1 = E1 at HF1 HF2
  obtain ⟨p1, q1, m1⟩ := E1
  obtain ⟨⟨p2, q2, m2⟩, er⟩ := E2
  simp only [Ent.val] at hge hy hw hs HF1 HF2 ⊢
  subst hy
  have HIS : Hid (∀ w', Mod No w w' → Calls Try.prog 72 #[.pointer (some ⟨K.R, 0, none⟩), .int .i64 m2] w' fun e w2 => e = .returned (.bool true) ∧ w' = w2) := fun w' hm => ris_in m2 w' (h.keptNo hm) hge hs
  clear he h hs
  rcases hw with rfl | rfl
  · skip
    go_enter Try.func27, Try.ntmps27
    go_wp2_with fail
    refine (HSP.out _).mono ?_
    rintro e w2 ⟨rfl, rfl⟩
    go_wp2_with fail
    refine (HF1.out _ (Mod.refl No w)).mono ?_
    rintro e w2 ⟨rfl, hm2⟩
    have HM := Lib.hid (hm2.alloc (.cells #[.bool p1, .bool q1, .int .i64 m1] 143))
    clear hm2
    go_wp2_with fail
    refine (HF2.out _ HM.out).mono ?_
    rintro e w4 ⟨rfl, hm4⟩
    have HM2 := Lib.hid ((HM.out.trans hm4).alloc (.cells #[.bool p2, .bool q2, .int .i64 m2] 143))
    clear hm4 HM
    go_wp2_with fail
    refine (HIS.out _ HM2.out).mono ?_
    rintro e w5 ⟨rfl, rfl⟩
    go_wp2
    go_ret3
    exact ⟨rfl, HM2.out⟩
  · cases wr
    · skip
      go_enter Try.func27, Try.ntmps27
      go_wp2_with fail
      refine (HSP.out _).mono ?_
      rintro e w2 ⟨rfl, rfl⟩
      go_wp2_with fail
      refine (HF1.out _ (Mod.refl No w)).mono ?_
      rintro e w2 ⟨rfl, hm2⟩
      have HM := Lib.hid (hm2.alloc (.cells #[.bool p1, .bool q1, .int .i64 m1] 143))
      clear hm2
      go_wp2_with fail
      refine (HF2.out _ HM.out).mono ?_
      rintro e w4 ⟨rfl, hm4⟩
      have HM2 := Lib.hid ((HM.out.trans hm4).alloc (.cells #[.bool p2, .bool true, .int .i64 m2] 143))
      clear hm4 HM
      go_wp2_with fail
      refine (HIS.out _ HM2.out).mono ?_
      rintro e w5 ⟨rfl, rfl⟩
      go_wp2
      go_ret3
      exact ⟨rfl, HM2.out⟩
    · skip
      go_enter Try.func27, Try.ntmps27
      go_wp2_with fail
      refine (HSP.out _).mono ?_
      rintro e w2 ⟨rfl, rfl⟩
      go_wp2_with fail
      refine (HF1.out _ (Mod.refl No w)).mono ?_
      rintro e w2 ⟨rfl, hm2⟩
      have HM := Lib.hid (hm2.alloc (.cells #[.bool p1, .bool q1, .int .i64 m1] 143))
      clear hm2
      go_wp2_with fail
      refine (HF2.out _ HM.out).mono ?_
      rintro e w4 ⟨rfl, hm4⟩
      have HM2 := Lib.hid ((HM.out.trans hm4).alloc (.cells #[.bool p2, .bool true, .int .i64 m2] 143))
      clear hm4 HM
      go_wp2_with fail
      refine (HIS.out _ HM2.out).mono ?_
      rintro e w5 ⟨rfl, rfl⟩
      go_wp2
      go_ret3
      exact ⟨rfl, HM2.out⟩

theorem walk_any {B F : Nat} {S : List Fr} (root va : Int) (wr : Bool) (w : World) (h : PhM w B F S) (h0 : 0 ≤ va) (h1 : va ≤ 4294967295) :
    Calls Try.prog 26 #[.pointer (some ⟨B, 0, none⟩), .int .i64 root, .int .u32 va, .bool wr] w fun e w' => e = .returned (.tuple #[.int .i64 (walkR S root va wr).1, .int .i64 (walkR S root va wr).2.1, .int .i64 (walkR S root va wr).2.2]) ∧ Mod No w w' := by
  unfold walkR
  split
  · exact walk_1 root va wr w h (by assumption) h1
  · rename_i hv
    split
    · exact walk_2 root va wr w h h0 (by omega) (by assumption)
    · rename_i he
      split
      · exact walk_3 root va wr w h h0 (by omega) (by omega) (by assumption)
      · rename_i hy
        split
        · rename_i hw
          exact walk_4 root va wr w h h0 (by omega) (by omega) (by omega) hw.2 hw.1
        · rename_i hw
          have hw' : wr = false ∨ (entR S (entR S root (va / 16384)).1.mfn (va / 256 % 64)).1.write = true := by
            cases wr with
            | false => exact .inl rfl
            | true =>
              right
              cases hq : (entR S (entR S root (va / 16384)).1.mfn (va / 256 % 64)).1.write with
              | true => rfl
              | false => exact absurd ⟨rfl, hq⟩ hw
          split
          · exact walk_5 root va wr w h h0 (by omega) (by omega) (by omega) hw' (by assumption)
          · exact walk_6 root va wr w h h0 (by omega) (by omega) (by omega) hw' (by omega)

theorem rwalk_any {K : RfK} {S : List Fr} (root va : Int) (wr : Bool) (w : World) (h : RfM w K S) (h0 : 0 ≤ va) (h1 : va ≤ 4294967295) :
    Calls Try.prog 27 #[.pointer (some ⟨K.R, 0, none⟩), .int .i64 root, .int .u32 va, .bool wr] w fun e w' => e = .returned (.tuple #[.int .i64 (walkR S root va wr).1, .int .i64 (walkR S root va wr).2.1, .int .i64 (walkR S root va wr).2.2]) ∧ Mod No w w' := by
  unfold walkR
  split
  · exact rwalk_1 root va wr w (by assumption)
  · rename_i hv
    split
    · exact rwalk_2 root va wr w h h0 (by omega) (by assumption)
    · rename_i he
      split
      · exact rwalk_3 root va wr w h h0 (by omega) (by omega) (by assumption)
      · rename_i hy
        split
        · rename_i hw
          exact rwalk_4 root va wr w h h0 (by omega) (by omega) (by omega) hw.2 hw.1
        · rename_i hw
          have hw' : wr = false ∨ (entR S (entR S root (va / 16384)).1.mfn (va / 256 % 64)).1.write = true := by
            cases wr with
            | false => exact .inl rfl
            | true =>
              right
              cases hq : (entR S (entR S root (va / 16384)).1.mfn (va / 256 % 64)).1.write with
              | true => rfl
              | false => exact absurd ⟨rfl, hq⟩ hw
          split
          · exact rwalk_5 root va wr w h h0 (by omega) (by omega) (by omega) hw' (by assumption)
          · exact rwalk_6 root va wr w h h0 (by omega) (by omega) (by omega) hw' (by omega)

end Go.Proofs.Ytlaamkojkpamaaa
