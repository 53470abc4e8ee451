/- A table's entry that is present: the code's and the document's. -/
import Derived.Test.YtlaamkojkpamaaaPteAt
namespace Go.Proofs.Ytlaamkojkpamaaa
open Go.RowKit
set_option maxRecDepth 100000

theorem unpackR_err {n : Int} (h : (unpackR n).2 ≠ 0) : unpackR n = (noEnt, 4) := by
  unfold unpackR at h ⊢
  split
  · rename_i c; rw [if_pos c] at h; exact absurd rfl h
  · rename_i c; rw [if_neg c] at h; split
    · rfl
    · rename_i d; rw [if_neg d] at h; exact absurd rfl h
theorem unpackR_absent {n : Int} (h : (unpackR n).1.present = false) : (unpackR n).1 = noEnt := by
  unfold unpackR at h ⊢
  split
  · rfl
  · rename_i c; rw [if_neg c] at h; split
    · rfl
    · rename_i d; rw [if_neg d] at h; cases h

/-- What a new block of an entry's three cells gives. -/
theorem ent_block {w w2 : World} {a b : Bool} {c : Int} (hm : Mod No (w.alloc (.cells #[.bool a, .bool b, .int .i64 c] 143)) w2) :
    w2.heap[w.heap.size]? = some (.cells ([.bool a, .bool b, .int .i64 c] : List Value).toArray 143 (0, 0)) := hm.blk (heap_alloc_new w _) (fun q => q)

theorem atR_range {S : List Fr} (hS : okS S) (t i : Int) : 0 ≤ (atR S t i).1 ∧ (atR S t i).1 ≤ 4294967295 := by
  by_cases h : (0 ≤ i ∧ i < 64) ∧ 0 ≤ t ∧ t < S.length
  · obtain ⟨f, hf⟩ : ∃ f, S[t.toNat]? = some f := ⟨_, List.getElem?_eq_getElem (by omega)⟩
    rw [atR_in h.1 h.2 hf]
    obtain ⟨b0, b1, b2, b3, hb, r0, r1, r2, r3⟩ := bytes4 (hS f (List.mem_of_getElem? hf)) (k := (4 * i).toNat) (by omega)
    rw [hb]
    exact word4_range r0 r1 r2 r3
  · rw [atR_out h]; decide

theorem mod_ent {w w2 : World} {a b : Bool} {c : Int} (hm : Mod No (w.alloc (.cells #[.bool a, .bool b, .int .i64 c] 143)) w2) (x y z : Value) :
    Mod No w (((w2.setCell ⟨w.heap.size, 0, none⟩ x).setCell ⟨w.heap.size, 1, none⟩ y).setCell ⟨w.heap.size, 2, none⟩ z) := by
  have h0 : Mod No w w2 := ((Mod.refl No w).alloc _).trans hm
  exact ((h0.setCell (p := ⟨w.heap.size, 0, none⟩) (fun q => absurd q (Nat.lt_irrefl _)) _).setCell (p := ⟨w.heap.size, 1, none⟩) (fun q => absurd q (Nat.lt_irrefl _)) _).setCell (p := ⟨w.heap.size, 2, none⟩) (fun q => absurd q (Nat.lt_irrefl _)) _

set_option maxHeartbeats 1600000 in
theorem follow_any {B F : Nat} {S : List Fr} (t i : Int) (w : World) (h : PhM w B F S) :
    Calls Try.prog 74 #[.pointer (some ⟨B, 0, none⟩), .int .i64 t, .int .i64 i] w fun e w' => e = .returned (.tuple #[(entR S t i).1.val, .int .i64 (entR S t i).2]) ∧ Mod No w w' := by
  have hrg := atR_range h.ok t i
  have hA := at_any t i (w.alloc (.cells #[.bool false, .bool false, .int .i64 0] 143)) (h.alloc _)
  by_cases c1 : (atR S t i).2 ≠ 0
  · have e : entR S t i = (noEnt, (atR S t i).2) := by unfold entR; rw [if_pos c1]
    rw [e]
    generalize (atR S t i).1 = n at hrg hA
    generalize (atR S t i).2 = er at hA c1
    have d1 : (er != 0) = true := bne_iff_ne.2 c1
    have HA := Lib.hid hA
    clear hA e c1 h
    go_enter Try.func74, Try.ntmps74
    go_wp2_with fail
    refine HA.out.mono ?_
    rintro e w2 ⟨rfl, hm2⟩
    have hb := ent_block hm2
    have x0 := row_cell hb 0
    have x1 := row_cell hb 1
    have x2 := row_cell hb 2
    have f0 := row_free hb 0
    have f1 := row_free hb 1
    have f2 := row_free hb 2
    simp only [List.getElem?_cons_zero, List.getElem?_cons_succ] at x0 x1 x2
    go_wp2
    refine bodyPost_ret (v := .tuple #[noEnt.val, .int .i64 er]) (by simp [results, Try.results74, go_sem, Ent.val, noEnt, x0, x1, x2]) rfl ⟨rfl, ?_⟩
    exact mod_ent hm2 _ _ _
  · have c1' : (atR S t i).2 = 0 := by omega
    have e1 : entR S t i = if (unpackR (atR S t i).1).2 ≠ 0 then (noEnt, (unpackR (atR S t i).1).2) else if (unpackR (atR S t i).1).1.present = true then ((unpackR (atR S t i).1).1, 0) else (noEnt, 40) := by unfold entR; rw [if_neg c1]
    rw [e1]
    rw [c1'] at hA
    generalize (atR S t i).1 = n at hrg hA
    clear e1 c1 c1' h
    have HA := Lib.hid hA
    have HU := Lib.hid (fun w' => unpack_any n w' hrg.1 hrg.2)
    clear hA
    by_cases c2 : (unpackR n).2 ≠ 0
    · have e := unpackR_err c2
      rw [if_pos c2, e]
      rw [e] at HU
      clear e c2
      go_enter Try.func74, Try.ntmps74
      go_wp2_with fail
      refine HA.out.mono ?_
      rintro e w2 ⟨rfl, hm2⟩
      go_wp2_with fail
      refine (HU.out _).mono ?_
      simp only [noEnt, Ent.val]
      rintro e w3 ⟨rfl, hm3⟩
      replace hm2 := hm2.trans hm3
      clear hm3
      have hb := ent_block hm2
      have x0 := row_cell hb 0
      have x1 := row_cell hb 1
      have x2 := row_cell hb 2
      have f0 := row_free hb 0
      have f1 := row_free hb 1
      have f2 := row_free hb 2
      simp only [List.getElem?_cons_zero, List.getElem?_cons_succ] at x0 x1 x2
      have hl := lt_of_blk hb
      go_wp2
      refine bodyPost_ret (v := .tuple #[.agg #[.bool false, .bool false, .int .i64 0], .int .i64 4]) (by simp [results, Try.results74, go_sem, x0, x1, x2, hl]) rfl ⟨rfl, ?_⟩
      exact (mod_ent hm2 _ _ _).alloc _
    · have c2' : (unpackR n).2 = 0 := by omega
      rw [if_neg c2]
      rw [c2'] at HU
      by_cases c3 : (unpackR n).1.present = true
      · rw [if_pos c3]
        obtain ⟨q, m, hqm⟩ : ∃ q m, (unpackR n).1 = ⟨true, q, m⟩ := by
          rw [← c3]; exact ⟨_, _, rfl⟩
        rw [hqm]
        rw [hqm] at HU
        clear hqm c3 c2 c2'
        go_enter Try.func74, Try.ntmps74
        go_wp2_with fail
        refine HA.out.mono ?_
        rintro e w2 ⟨rfl, hm2⟩
        go_wp2_with fail
        refine (HU.out _).mono ?_
        simp only [Ent.val]
        rintro e w3 ⟨rfl, hm3⟩
        replace hm2 := hm2.trans hm3
        clear hm3
        have hb := ent_block hm2
        have x0 := row_cell hb 0
        have x1 := row_cell hb 1
        have x2 := row_cell hb 2
        have f0 := row_free hb 0
        have f1 := row_free hb 1
        have f2 := row_free hb 2
        simp only [List.getElem?_cons_zero, List.getElem?_cons_succ] at x0 x1 x2
        have hl := lt_of_blk hb
        go_wp2
        refine bodyPost_ret (v := .tuple #[.agg #[.bool true, .bool q, .int .i64 m], .int .i64 0]) (by simp [results, Try.results74, go_sem, x0, x1, x2, hl]) rfl ⟨rfl, ?_⟩
        exact (mod_ent hm2 _ _ _).alloc _
      · have hn := unpackR_absent (by simpa using c3)
        rw [if_neg c3]
        rw [hn] at HU
        clear hn c3 c2 c2'
        go_enter Try.func74, Try.ntmps74
        go_wp2_with fail
        refine HA.out.mono ?_
        rintro e w2 ⟨rfl, hm2⟩
        go_wp2_with fail
        refine (HU.out _).mono ?_
        simp only [noEnt, Ent.val]
        rintro e w3 ⟨rfl, hm3⟩
        replace hm2 := hm2.trans hm3
        clear hm3
        have hb := ent_block hm2
        have x0 := row_cell hb 0
        have x1 := row_cell hb 1
        have x2 := row_cell hb 2
        have f0 := row_free hb 0
        have f1 := row_free hb 1
        have f2 := row_free hb 2
        simp only [List.getElem?_cons_zero, List.getElem?_cons_succ] at x0 x1 x2
        have hl := lt_of_blk hb
        go_wp2
        refine bodyPost_ret (v := .tuple #[.agg #[.bool false, .bool false, .int .i64 0], .int .i64 40]) (by simp [results, Try.results74, go_sem, x0, x1, x2, hl]) rfl ⟨rfl, ?_⟩
        exact (mod_ent hm2 _ _ _).alloc _

set_option maxHeartbeats 1600000 in
theorem rentry_any {K : RfK} {S : List Fr} (t i : Int) (w : World) (h : RfM w K S) :
    Calls Try.prog 76 #[.pointer (some ⟨K.R, 0, none⟩), .int .i64 t, .int .i64 i] w fun e w' => e = .returned (.tuple #[(entR S t i).1.val, .int .i64 (entR S t i).2]) ∧ Mod No w w' := by
  have hrg := atR_range h.ok t i
  have hA := rat_any t i (w.alloc (.cells #[.bool false, .bool false, .int .i64 0] 143)) (h.alloc _)
  by_cases c1 : (atR S t i).2 ≠ 0
  · have e : entR S t i = (noEnt, (atR S t i).2) := by unfold entR; rw [if_pos c1]
    rw [e]
    generalize (atR S t i).1 = n at hrg hA
    generalize (atR S t i).2 = er at hA c1
    have d1 : (er != 0) = true := bne_iff_ne.2 c1
    have HA := Lib.hid hA
    clear hA e c1 h
    go_enter Try.func76, Try.ntmps76
    go_wp2_with fail
    refine HA.out.mono ?_
    rintro e w2 ⟨rfl, hm2⟩
    have hb := ent_block hm2
    have x0 := row_cell hb 0
    have x1 := row_cell hb 1
    have x2 := row_cell hb 2
    have f0 := row_free hb 0
    have f1 := row_free hb 1
    have f2 := row_free hb 2
    simp only [List.getElem?_cons_zero, List.getElem?_cons_succ] at x0 x1 x2
    go_wp2
    refine bodyPost_ret (v := .tuple #[noEnt.val, .int .i64 er]) (by simp [results, Try.results76, go_sem, Ent.val, noEnt, x0, x1, x2]) rfl ⟨rfl, ?_⟩
    exact mod_ent hm2 _ _ _
  · have c1' : (atR S t i).2 = 0 := by omega
    have e1 : entR S t i = if (unpackR (atR S t i).1).2 ≠ 0 then (noEnt, (unpackR (atR S t i).1).2) else if (unpackR (atR S t i).1).1.present = true then ((unpackR (atR S t i).1).1, 0) else (noEnt, 40) := by unfold entR; rw [if_neg c1]
    rw [e1]
    rw [c1'] at hA
    generalize (atR S t i).1 = n at hrg hA
    clear e1 c1 c1' h
    have HA := Lib.hid hA
    have HU := Lib.hid (fun w' => runpack_any n w' hrg.1 hrg.2)
    clear hA
    by_cases c2 : (unpackR n).2 ≠ 0
    · have e := unpackR_err c2
      rw [if_pos c2, e]
      rw [e] at HU
      clear e c2
      go_enter Try.func76, Try.ntmps76
      go_wp2_with fail
      refine HA.out.mono ?_
      rintro e w2 ⟨rfl, hm2⟩
      go_wp2_with fail
      refine (HU.out _).mono ?_
      simp only [noEnt, Ent.val]
      rintro e w3 ⟨rfl, hm3⟩
      replace hm2 := hm2.trans hm3
      clear hm3
      have hb := ent_block hm2
      have x0 := row_cell hb 0
      have x1 := row_cell hb 1
      have x2 := row_cell hb 2
      have f0 := row_free hb 0
      have f1 := row_free hb 1
      have f2 := row_free hb 2
      simp only [List.getElem?_cons_zero, List.getElem?_cons_succ] at x0 x1 x2
      have hl := lt_of_blk hb
      go_wp2
      refine bodyPost_ret (v := .tuple #[.agg #[.bool false, .bool false, .int .i64 0], .int .i64 4]) (by simp [results, Try.results76, go_sem, x0, x1, x2, hl]) rfl ⟨rfl, ?_⟩
      exact (mod_ent hm2 _ _ _).alloc _
    · have c2' : (unpackR n).2 = 0 := by omega
      rw [if_neg c2]
      rw [c2'] at HU
      by_cases c3 : (unpackR n).1.present = true
      · rw [if_pos c3]
        obtain ⟨q, m, hqm⟩ : ∃ q m, (unpackR n).1 = ⟨true, q, m⟩ := by
          rw [← c3]; exact ⟨_, _, rfl⟩
        rw [hqm]
        rw [hqm] at HU
        clear hqm c3 c2 c2'
        go_enter Try.func76, Try.ntmps76
        go_wp2_with fail
        refine HA.out.mono ?_
        rintro e w2 ⟨rfl, hm2⟩
        go_wp2_with fail
        refine (HU.out _).mono ?_
        simp only [Ent.val]
        rintro e w3 ⟨rfl, hm3⟩
        replace hm2 := hm2.trans hm3
        clear hm3
        have hb := ent_block hm2
        have x0 := row_cell hb 0
        have x1 := row_cell hb 1
        have x2 := row_cell hb 2
        have f0 := row_free hb 0
        have f1 := row_free hb 1
        have f2 := row_free hb 2
        simp only [List.getElem?_cons_zero, List.getElem?_cons_succ] at x0 x1 x2
        have hl := lt_of_blk hb
        go_wp2
        refine bodyPost_ret (v := .tuple #[.agg #[.bool true, .bool q, .int .i64 m], .int .i64 0]) (by simp [results, Try.results76, go_sem, x0, x1, x2, hl]) rfl ⟨rfl, ?_⟩
        exact (mod_ent hm2 _ _ _).alloc _
      · have hn := unpackR_absent (by simpa using c3)
        rw [if_neg c3]
        rw [hn] at HU
        clear hn c3 c2 c2'
        go_enter Try.func76, Try.ntmps76
        go_wp2_with fail
        refine HA.out.mono ?_
        rintro e w2 ⟨rfl, hm2⟩
        go_wp2_with fail
        refine (HU.out _).mono ?_
        simp only [noEnt, Ent.val]
        rintro e w3 ⟨rfl, hm3⟩
        replace hm2 := hm2.trans hm3
        clear hm3
        have hb := ent_block hm2
        have x0 := row_cell hb 0
        have x1 := row_cell hb 1
        have x2 := row_cell hb 2
        have f0 := row_free hb 0
        have f1 := row_free hb 1
        have f2 := row_free hb 2
        simp only [List.getElem?_cons_zero, List.getElem?_cons_succ] at x0 x1 x2
        have hl := lt_of_blk hb
        go_wp2
        refine bodyPost_ret (v := .tuple #[.agg #[.bool false, .bool false, .int .i64 0], .int .i64 40]) (by simp [results, Try.results76, go_sem, x0, x1, x2, hl]) rfl ⟨rfl, ?_⟩
        exact (mod_ent hm2 _ _ _).alloc _

end Go.Proofs.Ytlaamkojkpamaaa
