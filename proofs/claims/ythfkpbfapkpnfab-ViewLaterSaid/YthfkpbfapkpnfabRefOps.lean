/- tenementref01: still, Give, Get, Put. -/
import Derived.Test.YthfkpbfapkpnfabRef
import Derived.Test.YthfkpbfapkpnfabPhysPut
import Derived.RegionTactic
import Derived.ChangeAlike
namespace Go.Proofs.Ythfkpbfapkpnfab
open Go.RowKit
set_option maxRecDepth 100000

theorem rstill_any {K : RfK} {S : List Fr} (i : Int) (f : Fr) (w : World) (h : RfM w K S) (h0 : 0 ≤ i) (hf : S[i.toNat]? = some f) :
    Calls Try.prog 99 #[.pointer (some ⟨K.R, 0, none⟩), .int .i64 i] w fun e w' => e = .returned (.int .i64 f.rest) ∧ w = w' := by
  have hlt : i.toNat < S.length := (List.getElem?_eq_some_iff.1 hf).1
  have h1 : i < S.length := by omega
  obtain ⟨c, hc, hF⟩ := h.cF
  have c0 := h.cH hf 0 (by omega)
  have c3 := h.cH hf 3 (by omega)
  simp only [Nat.add_zero, Fr.head, List.getElem?_cons_zero, List.getElem?_cons_succ] at c0 c3
  unfold Fr.rest
  by_cases q1 : f.owner = -1
  · rw [if_pos q1]
    have d1 : (f.owner == -1) = true := beq_iff_eq.2 q1
    clear q1
    go_enter Try.func99, Try.ntmps99
    go_wp2
    go_ret
    exact ⟨rfl, rfl⟩
  rw [if_neg q1]
  have d1 : (f.owner == -1) = false := beq_eq_false_iff_ne.2 q1
  by_cases q2 : f.total = 0
  · rw [if_pos q2]
    have d2 : (f.total != 0) = false := by simp [q2]
    clear q2
    go_enter Try.func99, Try.ntmps99
    go_wp2
    go_ret
    exact ⟨rfl, rfl⟩
  · rw [if_neg q2]
    have d2 : (f.total != 0) = true := by simp [q2]
    go_enter Try.func99, Try.ntmps99
    go_wp2
    go_ret
    exact ⟨rfl, rfl⟩

theorem rgive_out {K : RfK} {S : List Fr} (i n : Int) (w : World) (h : RfM w K S) (hi : (i < 0 ∨ (S.length : Int) ≤ i) ∨ (n < 0 ∨ 8 ≤ n)) :
    Calls Try.prog 71 #[.pointer (some ⟨K.R, 0, none⟩), .int .i64 i, .int .i64 n] w fun e w' => e = .returned (.int .i64 1) ∧ w = w' := by
  by_cases hn : i < 0 ∨ (S.length : Int) ≤ i
  · go_enter Try.func71, Try.ntmps71
    go_wp2_with (go_at_call 98; refine (ris_out i _ h hn).mono ?_; rintro e w' ⟨rfl, rfl⟩)
    go_ret
    exact ⟨rfl, rfl⟩
  · have hi0 : 0 ≤ i := by omega
    have hi1 : i < S.length := by omega
    have hd : n < 0 ∨ 8 ≤ n := by omega
    clear hi hn
    go_enter Try.func71, Try.ntmps71
    go_wp2_with (first
      | (go_at_call 98; refine (ris_in i _ h hi0 hi1).mono ?_; rintro e w' ⟨rfl, rfl⟩)
      | (go_at_call 76; refine (rdomain_no n _ hd).mono ?_; rintro e w' ⟨rfl, rfl⟩))
    go_ret
    exact ⟨rfl, rfl⟩

theorem rgive_err {K : RfK} {S : List Fr} (i n : Int) (f : Fr) (w : World) (h : RfM w K S) (hi : 0 ≤ i) (hf : S[i.toNat]? = some f) (h0 : 0 ≤ n) (h1 : n < 8) (he : f.rest ≠ 0) :
    Calls Try.prog 71 #[.pointer (some ⟨K.R, 0, none⟩), .int .i64 i, .int .i64 n] w fun e w' => e = .returned (.int .i64 f.rest) ∧ w = w' := by
  have hlt : i.toNat < S.length := (List.getElem?_eq_some_iff.1 hf).1
  have hr := rstill_any i f w h hi hf
  generalize f.rest = r at he hr ⊢
  have HR := Lib.hid hr; clear hr
  have d1 : (r != 0) = true := bne_iff_ne.2 he
  go_enter Try.func71, Try.ntmps71
  go_wp2_with (first
    | (go_at_call 98; refine (ris_in i _ h hi (by omega)).mono ?_; rintro e w' ⟨rfl, rfl⟩)
    | (go_at_call 76; refine (rdomain_yes n _ h0 h1).mono ?_; rintro e w' ⟨rfl, rfl⟩)
    | (go_at_call 99; refine HR.out.mono ?_; rintro e w' ⟨rfl, rfl⟩))
  go_ret
  exact ⟨rfl, rfl⟩

theorem rgive_ok {K : RfK} {S : List Fr} (i n : Int) (f : Fr) (w : World) (h : RfM w K S) (hi : 0 ≤ i) (hf : S[i.toNat]? = some f) (h0 : 0 ≤ n) (h1 : n < 8) (he : f.rest = 0) :
    Calls Try.prog 71 #[.pointer (some ⟨K.R, 0, none⟩), .int .i64 i, .int .i64 n] w fun e w' => e = .returned (.int .i64 0) ∧ Mod K.inn w w' ∧ RfM w' K (S.set i.toNat { f with owner := n }) := by
  have hlt : i.toNat < S.length := (List.getElem?_eq_some_iff.1 hf).1
  have hi1 : i < S.length := by omega
  obtain ⟨c, hc, hF⟩ := h.cF
  have hfz := h.fH (i.toNat * 4)
  have c0 := h.cH hf 0 (by omega)
  simp only [Nat.add_zero, Fr.head, List.getElem?_cons_zero] at c0
  have hr := rstill_any i f w h hi hf
  rw [he] at hr
  have HR := Lib.hid hr; clear hr he
  have HM := Lib.hid (h.setH (f' := { f with owner := n }) hf rfl 0 (by omega) (v := .int .i64 n) rfl)
  go_enter Try.func71, Try.ntmps71
  go_wp2_with (first
    | (go_at_call 98; refine (ris_in i _ h hi (by omega)).mono ?_; rintro e w' ⟨rfl, rfl⟩)
    | (go_at_call 76; refine (rdomain_yes n _ h0 h1).mono ?_; rintro e w' ⟨rfl, rfl⟩)
    | (go_at_call 99; refine HR.out.mono ?_; rintro e w' ⟨rfl, rfl⟩))
  go_ret
  exact ⟨rfl, HM.out.2, HM.out.1⟩

/-- All four head cells of a frame are stored. -/
theorem RfM.setH4 {w : World} {K : RfK} {S : List Fr} (h : RfM w K S) {i : Nat} {f f' : Fr} (hi : S[i]? = some f) (hb : f'.bytes = f.bytes) :
    RfM ((((w.setCell ⟨K.G, i * 4, none⟩ (.int .i64 f'.owner)).setCell ⟨K.G, i * 4 + 1, none⟩ (.int .i64 f'.type)).setCell ⟨K.G, i * 4 + 2, none⟩ (.int .i64 f'.count)).setCell ⟨K.G, i * 4 + 3, none⟩ (.int .i64 f'.total)) K (S.set i f') ∧
    Mod K.inn w ((((w.setCell ⟨K.G, i * 4, none⟩ (.int .i64 f'.owner)).setCell ⟨K.G, i * 4 + 1, none⟩ (.int .i64 f'.type)).setCell ⟨K.G, i * 4 + 2, none⟩ (.int .i64 f'.count)).setCell ⟨K.G, i * 4 + 3, none⟩ (.int .i64 f'.total)) := by
  have hlt : i < S.length := (List.getElem?_eq_some_iff.1 hi).1
  obtain ⟨s1, m1⟩ := h.setH (f' := { f with owner := f'.owner }) hi rfl 0 (by omega) (v := .int .i64 f'.owner) rfl
  obtain ⟨s2, m2⟩ := s1.setH (i := i) (f := { f with owner := f'.owner }) (f' := { f with owner := f'.owner, type := f'.type }) (by simp [hlt]) rfl 1 (by omega) (v := .int .i64 f'.type) rfl
  obtain ⟨s3, m3⟩ := s2.setH (i := i) (f := { f with owner := f'.owner, type := f'.type }) (f' := { f with owner := f'.owner, type := f'.type, count := f'.count }) (by simp [hlt]) rfl 2 (by omega) (v := .int .i64 f'.count) rfl
  obtain ⟨s4, m4⟩ := s3.setH (i := i) (f := { f with owner := f'.owner, type := f'.type, count := f'.count }) (f' := { f with owner := f'.owner, type := f'.type, count := f'.count, total := f'.total }) (by simp [hlt]) rfl 3 (by omega) (v := .int .i64 f'.total) rfl
  have e : ({ f with owner := f'.owner, type := f'.type, count := f'.count, total := f'.total } : Fr) = f' := by obtain ⟨a, b, c, d, e⟩ := f'; simp at hb ⊢; exact hb.symm
  rw [e] at s4
  refine ⟨by simpa using s4, ((m1.trans m2).trans m3).trans m4⟩

theorem rget_out {K : RfK} {S : List Fr} (i o k : Int) (w : World) (h : RfM w K S) (hi : (i < 0 ∨ (S.length : Int) ≤ i) ∨ k < 0 ∨ 3 < k) :
    Calls Try.prog 72 #[.pointer (some ⟨K.R, 0, none⟩), .int .i64 i, .int .i64 o, .int .i64 k] w fun e w' => e = .returned (.int .i64 1) ∧ w = w' := by
  by_cases hn : i < 0 ∨ (S.length : Int) ≤ i
  · go_enter Try.func72, Try.ntmps72
    go_wp2_with (go_at_call 98; refine (ris_out i _ h hn).mono ?_; rintro e w' ⟨rfl, rfl⟩)
    go_ret
    exact ⟨rfl, rfl⟩
  have hi0 : 0 ≤ i := by omega
  have hi1 : i < S.length := by omega
  have hd : k < 0 ∨ 3 < k := by omega
  clear hi hn
  by_cases c1 : k < 0
  · have d1 : decide (k < 0) = true := decide_eq_true c1
    go_enter Try.func72, Try.ntmps72
    go_wp2_with (go_at_call 98; refine (ris_in i _ h hi0 hi1).mono ?_; rintro e w' ⟨rfl, rfl⟩)
    go_ret
    exact ⟨rfl, rfl⟩
  · have d1 : decide (k < 0) = false := decide_eq_false c1
    have d2 : decide (3 < k) = true := decide_eq_true (by omega)
    go_enter Try.func72, Try.ntmps72
    go_wp2_with (go_at_call 98; refine (ris_in i _ h hi0 hi1).mono ?_; rintro e w' ⟨rfl, rfl⟩)
    go_ret
    exact ⟨rfl, rfl⟩

set_option maxHeartbeats 800000 in
theorem rget_err {K : RfK} {S : List Fr} (i o k : Int) (f : Fr) (w : World) (h : RfM w K S) (hi : 0 ≤ i) (hf : S[i.toNat]? = some f) (hk0 : 0 ≤ k) (hk1 : k ≤ 3) (hz : f.count = 0 ↔ f.type = 0) (he : f.getErr o k ≠ 0) :
    Calls Try.prog 72 #[.pointer (some ⟨K.R, 0, none⟩), .int .i64 i, .int .i64 o, .int .i64 k] w fun e w' => e = .returned (.int .i64 (f.getErr o k)) ∧ Mod No w w' := by
  have hlt : i.toNat < S.length := (List.getElem?_eq_some_iff.1 hf).1
  have hi1 : i < S.length := by omega
  obtain ⟨c, hc, hF⟩ := h.cF
  have c0 := h.cH hf 0 (by omega)
  have c1 := h.cH hf 1 (by omega)
  have c2 := h.cH hf 2 (by omega)
  have c3 := h.cH hf 3 (by omega)
  simp only [Nat.add_zero, Fr.head, List.getElem?_cons_zero, List.getElem?_cons_succ] at c0 c1 c2 c3
  have hlG := h.lt K.G (.inr (.inl rfl))
  have k1 : decide (k < 0) = false := decide_eq_false (by omega)
  have k2 : decide (3 < k) = false := decide_eq_false (by omega)
  have HI := Lib.hid (ris_in i w h hi hi1)
  unfold Fr.getErr at he ⊢
  by_cases h1 : f.owner = -1
  · rw [if_pos h1]
    have d1 : (f.owner == -1) = true := beq_iff_eq.2 h1
    clear h1 he hz
    go_enter Try.func72, Try.ntmps72
    go_wp2_with (go_at_call 98; refine HI.out.mono ?_; rintro e w' ⟨rfl, rfl⟩)
    go_ret
    exact ⟨rfl, (Mod.refl _ _).alloc _⟩
  rw [if_neg h1] at he ⊢
  have d1 : (f.owner == -1) = false := beq_eq_false_iff_ne.2 h1
  by_cases h2 : f.owner ≠ o
  · rw [if_pos h2]
    have d2 : (f.owner != o) = true := bne_iff_ne.2 h2
    clear he hz
    go_enter Try.func72, Try.ntmps72
    go_wp2_with (go_at_call 98; refine HI.out.mono ?_; rintro e w' ⟨rfl, rfl⟩)
    go_ret
    exact ⟨rfl, (Mod.refl _ _).alloc _⟩
  rw [if_neg h2] at he ⊢
  have d2 : (f.owner != o) = false := by simpa using h2
  by_cases h3 : k ≠ 0 ∧ f.type ≠ 0 ∧ f.type ≠ k
  · rw [if_pos h3]
    have d3 : (k != 0) = true := bne_iff_ne.2 h3.1
    have d4 : (f.count != 0) = true := bne_iff_ne.2 (fun e => h3.2.1 (hz.1 e))
    have d5 : (f.type != k) = true := bne_iff_ne.2 h3.2.2
    clear he h3 h2 h1 hz
    go_enter Try.func72, Try.ntmps72
    go_wp2_with (go_at_call 98; refine HI.out.mono ?_; rintro e w' ⟨rfl, rfl⟩)
    go_ret
    exact ⟨rfl, (Mod.refl _ _).alloc _⟩
  · rw [if_neg h3] at he
    exact absurd rfl he

end Go.Proofs.Ythfkpbfapkpnfab
