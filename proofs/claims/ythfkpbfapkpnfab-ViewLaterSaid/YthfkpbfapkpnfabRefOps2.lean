/- tenementref01: Get, Put. -/
import Derived.Test.YthfkpbfapkpnfabRefOps
namespace Go.Proofs.Ythfkpbfapkpnfab
open Go.RowKit
set_option maxRecDepth 100000

set_option maxHeartbeats 1600000 in
theorem rget_ok {K : RfK} {S : List Fr} (i o k : Int) (f : Fr) (w : World) (h : RfM w K S) (hi : 0 ≤ i) (hf : S[i.toNat]? = some f) (hk0 : 0 ≤ k) (hk1 : k ≤ 3) (hz : f.count = 0 ↔ f.type = 0) (he : f.getErr o k = 0)
    (ht : 0 ≤ f.total ∧ f.total < 4611686018427387904) (hc : 0 ≤ f.count ∧ f.count < 4611686018427387904) :
    Calls Try.prog 72 #[.pointer (some ⟨K.R, 0, none⟩), .int .i64 i, .int .i64 o, .int .i64 k] w fun e w' =>
      e = .returned (.int .i64 0) ∧ Mod K.inn w w' ∧ RfM w' K (S.set i.toNat (f.got k)) := by
  have hlt : i.toNat < S.length := (List.getElem?_eq_some_iff.1 hf).1
  have hi1 : i < S.length := by omega
  obtain ⟨c, hcc, hF⟩ := h.cF
  have c0 := h.cH hf 0 (by omega)
  have c1 := h.cH hf 1 (by omega)
  have c2 := h.cH hf 2 (by omega)
  have c3 := h.cH hf 3 (by omega)
  simp only [Nat.add_zero, Fr.head, List.getElem?_cons_zero, List.getElem?_cons_succ] at c0 c1 c2 c3
  have f0 := h.fH (i.toNat * 4)
  have f1 := h.fH (i.toNat * 4 + 1)
  have f2 := h.fH (i.toNat * 4 + 2)
  have f3 := h.fH (i.toNat * 4 + 3)
  have hlG := h.lt K.G (.inr (.inl rfl))
  have hlR := h.lt K.R (.inl rfl)
  have n1 : K.R ≠ w.heap.size := by omega
  have n2 : K.G ≠ w.heap.size := by omega
  have n3 : w.heap.size ≠ K.G := by omega
  have k1 : decide (k < 0) = false := decide_eq_false (by omega)
  have k2 : decide (3 < k) = false := decide_eq_false (by omega)
  have HI := Lib.hid (ris_in i w h hi hi1)
  obtain ⟨h1, h2, h3⟩ := getErr_zero he
  clear he
  have d1 : (f.owner == -1) = false := beq_eq_false_iff_ne.2 h1
  have d2 : (f.owner != o) = false := by simp [h2]
  clear h1 h2
  have FIN : ∀ f' : Fr, f'.bytes = f.bytes → ∀ cs, Hid (Mod K.inn w ((((((w.setCell ⟨K.G, i.toNat * 4, none⟩ (.int .i64 f'.owner)).setCell ⟨K.G, i.toNat * 4 + 1, none⟩ (.int .i64 f'.type)).setCell ⟨K.G, i.toNat * 4 + 2, none⟩ (.int .i64 f'.count)).setCell ⟨K.G, i.toNat * 4 + 3, none⟩ (.int .i64 f'.total)).alloc cs).drew) ∧
      RfM ((((((w.setCell ⟨K.G, i.toNat * 4, none⟩ (.int .i64 f'.owner)).setCell ⟨K.G, i.toNat * 4 + 1, none⟩ (.int .i64 f'.type)).setCell ⟨K.G, i.toNat * 4 + 2, none⟩ (.int .i64 f'.count)).setCell ⟨K.G, i.toNat * 4 + 3, none⟩ (.int .i64 f'.total)).alloc cs).drew) K (S.set i.toNat f')) := by
    intro f' hb cs
    obtain ⟨a, b⟩ := h.setH4 (f' := f') hf hb
    exact ⟨(b.alloc cs).drew, (a.alloc cs).keptNo ((Mod.refl No _).drew)⟩
  by_cases hk : k = 0
  · have d3 : (k != 0) = false := by simp [hk]
    have e : f.got k = { f with total := f.total + 1 } := by simp [Fr.got, hk]
    rw [e]
    clear hk h3 e hz
    go_enter Try.func72, Try.ntmps72
    go_wp2_with (go_at_call 98; refine HI.out.mono ?_; rintro e w' ⟨rfl, rfl⟩)
    go_region
    go_wp2
    go_ret
    exact ⟨rfl, (FIN { f with total := f.total + 1 } rfl _).out⟩
  · have d3 : (k != 0) = true := bne_iff_ne.2 hk
    have e : f.got k = { f with total := f.total + 1, type := k, count := f.count + 1 } := by simp [Fr.got, hk]
    rw [e]
    rcases h3 with h3 | h3 | h3
    · exact absurd h3 hk
    · have d4 : (f.count != 0) = false := by simp [hz.2 h3]
      clear hk h3 e hz
      go_enter Try.func72, Try.ntmps72
      go_wp2_with (go_at_call 98; refine HI.out.mono ?_; rintro e w' ⟨rfl, rfl⟩)
      go_region
      go_wp2
      go_ret
      exact ⟨rfl, (FIN { f with total := f.total + 1, type := k, count := f.count + 1 } rfl _).out⟩
    · have d4 : (f.count != 0) = true := bne_iff_ne.2 (fun q => hk (by rw [← h3]; exact hz.1 q))
      have d5 : (f.type != k) = false := by simp [h3]
      clear hk h3 e hz
      go_enter Try.func72, Try.ntmps72
      go_wp2_with (go_at_call 98; refine HI.out.mono ?_; rintro e w' ⟨rfl, rfl⟩)
      go_region
      go_wp2
      go_ret
      exact ⟨rfl, (FIN { f with total := f.total + 1, type := k, count := f.count + 1 } rfl _).out⟩

theorem rput_out {K : RfK} {S : List Fr} (i k : Int) (w : World) (h : RfM w K S) (hi : (i < 0 ∨ (S.length : Int) ≤ i) ∨ k < 0 ∨ 3 < k) :
    Calls Try.prog 73 #[.pointer (some ⟨K.R, 0, none⟩), .int .i64 i, .int .i64 k] w fun e w' => e = .returned (.int .i64 1) ∧ w = w' := by
  by_cases hn : i < 0 ∨ (S.length : Int) ≤ i
  · go_enter Try.func73, Try.ntmps73
    go_wp2_with (go_at_call 98; refine (ris_out i _ h hn).mono ?_; rintro e w' ⟨rfl, rfl⟩)
    go_ret
    exact ⟨rfl, rfl⟩
  have hi0 : 0 ≤ i := by omega
  have hi1 : i < S.length := by omega
  have hd : k < 0 ∨ 3 < k := by omega
  clear hi hn
  by_cases c1 : k < 0
  · have d1 : decide (k < 0) = true := decide_eq_true c1
    go_enter Try.func73, Try.ntmps73
    go_wp2_with (go_at_call 98; refine (ris_in i _ h hi0 hi1).mono ?_; rintro e w' ⟨rfl, rfl⟩)
    go_ret
    exact ⟨rfl, rfl⟩
  · have d1 : decide (k < 0) = false := decide_eq_false c1
    have d2 : decide (3 < k) = true := decide_eq_true (by omega)
    go_enter Try.func73, Try.ntmps73
    go_wp2_with (go_at_call 98; refine (ris_in i _ h hi0 hi1).mono ?_; rintro e w' ⟨rfl, rfl⟩)
    go_ret
    exact ⟨rfl, rfl⟩

set_option maxHeartbeats 800000 in
theorem rput_err {K : RfK} {S : List Fr} (i k : Int) (f : Fr) (w : World) (h : RfM w K S) (hi : 0 ≤ i) (hf : S[i.toNat]? = some f) (hk0 : 0 ≤ k) (hk1 : k ≤ 3) (he : f.putErr k ≠ 0) :
    Calls Try.prog 73 #[.pointer (some ⟨K.R, 0, none⟩), .int .i64 i, .int .i64 k] w fun e w' => e = .returned (.int .i64 14) ∧ Mod No w w' := by
  have hlt : i.toNat < S.length := (List.getElem?_eq_some_iff.1 hf).1
  have hi1 : i < S.length := by omega
  obtain ⟨c, hc, hF⟩ := h.cF
  have c0 := h.cH hf 0 (by omega)
  have c1 := h.cH hf 1 (by omega)
  have c2 := h.cH hf 2 (by omega)
  have c3 := h.cH hf 3 (by omega)
  simp only [Nat.add_zero, Fr.head, List.getElem?_cons_zero, List.getElem?_cons_succ] at c0 c1 c2 c3
  have hlG := h.lt K.G (.inr (.inl rfl))
  have k1 : decide (k < 0) = false := decide_eq_false (by omega)
  have k2 : decide (3 < k) = false := decide_eq_false (by omega)
  have HI := Lib.hid (ris_in i w h hi hi1)
  unfold Fr.putErr at he
  by_cases hk : k = 0
  · rw [if_pos hk] at he
    have d3 : (k != 0) = false := by simp [hk]
    have d4 : (k == 0) = true := by simp [hk]
    have ht : f.total = f.count := by
      by_cases e : f.total = f.count
      · exact e
      · rw [if_neg e] at he; exact absurd rfl he
    have d5 : (f.total == f.count) = true := by simp [ht]
    clear he hk ht
    go_enter Try.func73, Try.ntmps73
    go_wp2_with (go_at_call 98; refine HI.out.mono ?_; rintro e w' ⟨rfl, rfl⟩)
    go_ret
    exact ⟨rfl, (Mod.refl _ _).alloc _⟩
  · rw [if_neg hk] at he
    have d3 : (k != 0) = true := bne_iff_ne.2 hk
    have d4 : (k == 0) = false := beq_eq_false_iff_ne.2 hk
    have d5 : (f.type != k) = true := by
      by_cases e : f.type = k
      · rw [if_pos e] at he; exact absurd rfl he
      · exact bne_iff_ne.2 e
    clear he hk
    by_cases hz : f.count = 0
    · have d6 : (f.count == 0) = true := by simp [hz]
      clear hz
      go_enter Try.func73, Try.ntmps73
      go_wp2_with (go_at_call 98; refine HI.out.mono ?_; rintro e w' ⟨rfl, rfl⟩)
      go_ret
      exact ⟨rfl, (Mod.refl _ _).alloc _⟩
    · have d6 : (f.count == 0) = false := by simp [hz]
      clear hz
      go_enter Try.func73, Try.ntmps73
      go_wp2_with (go_at_call 98; refine HI.out.mono ?_; rintro e w' ⟨rfl, rfl⟩)
      go_ret
      exact ⟨rfl, (Mod.refl _ _).alloc _⟩

set_option maxHeartbeats 1600000 in
theorem rput_ok {K : RfK} {S : List Fr} (i k : Int) (f : Fr) (w : World) (h : RfM w K S) (hi : 0 ≤ i) (hf : S[i.toNat]? = some f) (hk0 : 0 ≤ k) (hk1 : k ≤ 3) (hz : f.count = 0 ↔ f.type = 0) (he : f.putErr k = 0)
    (ht : -4611686018427387904 ≤ f.total ∧ f.total < 4611686018427387904) (hc : -4611686018427387904 ≤ f.count ∧ f.count < 4611686018427387904) :
    Calls Try.prog 73 #[.pointer (some ⟨K.R, 0, none⟩), .int .i64 i, .int .i64 k] w fun e w' =>
      e = .returned (.int .i64 0) ∧ Mod K.inn w w' ∧ RfM w' K (S.set i.toNat (f.put k)) := by
  have hlt : i.toNat < S.length := (List.getElem?_eq_some_iff.1 hf).1
  have hi1 : i < S.length := by omega
  obtain ⟨c, hcc, hF⟩ := h.cF
  have c0 := h.cH hf 0 (by omega)
  have c1 := h.cH hf 1 (by omega)
  have c2 := h.cH hf 2 (by omega)
  have c3 := h.cH hf 3 (by omega)
  simp only [Nat.add_zero, Fr.head, List.getElem?_cons_zero, List.getElem?_cons_succ] at c0 c1 c2 c3
  have f0 := h.fH (i.toNat * 4)
  have f1 := h.fH (i.toNat * 4 + 1)
  have f2 := h.fH (i.toNat * 4 + 2)
  have f3 := h.fH (i.toNat * 4 + 3)
  have hlG := h.lt K.G (.inr (.inl rfl))
  have hlR := h.lt K.R (.inl rfl)
  have n1 : K.R ≠ w.heap.size := by omega
  have n2 : K.G ≠ w.heap.size := by omega
  have n3 : w.heap.size ≠ K.G := by omega
  have k1 : decide (k < 0) = false := decide_eq_false (by omega)
  have k2 : decide (3 < k) = false := decide_eq_false (by omega)
  have HI := Lib.hid (ris_in i w h hi hi1)
  have FIN : ∀ f' : Fr, f'.bytes = f.bytes → ∀ cs, Hid (Mod K.inn w ((((((w.setCell ⟨K.G, i.toNat * 4, none⟩ (.int .i64 f'.owner)).setCell ⟨K.G, i.toNat * 4 + 1, none⟩ (.int .i64 f'.type)).setCell ⟨K.G, i.toNat * 4 + 2, none⟩ (.int .i64 f'.count)).setCell ⟨K.G, i.toNat * 4 + 3, none⟩ (.int .i64 f'.total)).alloc cs).drew) ∧
      RfM ((((((w.setCell ⟨K.G, i.toNat * 4, none⟩ (.int .i64 f'.owner)).setCell ⟨K.G, i.toNat * 4 + 1, none⟩ (.int .i64 f'.type)).setCell ⟨K.G, i.toNat * 4 + 2, none⟩ (.int .i64 f'.count)).setCell ⟨K.G, i.toNat * 4 + 3, none⟩ (.int .i64 f'.total)).alloc cs).drew) K (S.set i.toNat f')) := by
    intro f' hb cs
    obtain ⟨a, b⟩ := h.setH4 (f' := f') hf hb
    exact ⟨(b.alloc cs).drew, (a.alloc cs).keptNo ((Mod.refl No _).drew)⟩
  have hpz := putErr_zero he
  clear he
  by_cases hk : k = 0
  · rw [if_pos hk] at hpz
    have d3 : (k != 0) = false := by simp [hk]
    have d4 : (k == 0) = true := by simp [hk]
    have d5 : (f.total == f.count) = false := by simp [hpz]
    by_cases hc0 : f.count = 0
    · have e : f.put k = { f with total := f.total - 1, type := 0 } := by simp [Fr.put, hk, hc0]
      have d6 : (f.count == 0) = true := by simp [hc0]
      rw [e]
      clear hk hpz e hz hc0
      go_enter Try.func73, Try.ntmps73
      go_wp2_with (go_at_call 98; refine HI.out.mono ?_; rintro e w' ⟨rfl, rfl⟩)
      go_region
      go_wp2
      go_ret
      exact ⟨rfl, (FIN { f with total := f.total - 1, type := 0 } rfl _).out⟩
    · have e : f.put k = { f with total := f.total - 1 } := by simp [Fr.put, hk, hc0]
      have d6 : (f.count == 0) = false := by simp [hc0]
      rw [e]
      clear hk hpz e hz hc0
      go_enter Try.func73, Try.ntmps73
      go_wp2_with (go_at_call 98; refine HI.out.mono ?_; rintro e w' ⟨rfl, rfl⟩)
      go_region
      go_wp2
      go_ret
      exact ⟨rfl, (FIN { f with total := f.total - 1 } rfl _).out⟩
  · rw [if_neg hk] at hpz
    have d3 : (k != 0) = true := bne_iff_ne.2 hk
    have d4 : (k == 0) = false := beq_eq_false_iff_ne.2 hk
    have d5 : (f.type != k) = false := by simp [hpz]
    have d7 : (f.count == 0) = false := beq_eq_false_iff_ne.2 (fun q => hk (by rw [← hpz]; exact hz.1 q))
    by_cases hc0 : f.count - 1 = 0
    · have e : f.put k = { f with total := f.total - 1, count := f.count - 1, type := 0 } := by simp [Fr.put, hk, hc0]
      have d6 : (f.count - 1 == 0) = true := by simp [hc0]
      rw [e]
      clear hk hpz e hz hc0
      go_enter Try.func73, Try.ntmps73
      go_wp2_with (go_at_call 98; refine HI.out.mono ?_; rintro e w' ⟨rfl, rfl⟩)
      go_region
      go_wp2
      go_ret
      exact ⟨rfl, (FIN { f with total := f.total - 1, count := f.count - 1, type := 0 } rfl _).out⟩
    · have e : f.put k = { f with total := f.total - 1, count := f.count - 1 } := by simp [Fr.put, hk, hc0]
      have d6 : (f.count - 1 == 0) = false := by simp [hc0]
      rw [e]
      clear hk hpz e hz hc0
      go_enter Try.func73, Try.ntmps73
      go_wp2_with (go_at_call 98; refine HI.out.mono ?_; rintro e w' ⟨rfl, rfl⟩)
      go_region
      go_wp2
      go_ret
      exact ⟨rfl, (FIN { f with total := f.total - 1, count := f.count - 1 } rfl _).out⟩

end Go.Proofs.Ythfkpbfapkpnfab
