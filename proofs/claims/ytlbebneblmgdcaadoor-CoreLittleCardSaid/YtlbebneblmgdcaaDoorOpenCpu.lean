/- A processor's registers that came in. -/
import Derived.Test.YtlbebneblmgdcaaDoorRowKitS
namespace Go.Proofs.YtlbebneblmgdcaaDoor
open Go.ChangeShapes Go.WideShapes Go.ChangeAt Go.RowKit
set_option maxRecDepth 100000

theorem open_Cpu_arg {H : Type} {enc : TypeId × Value → H} {W : World} {base : Nat} {v : Value} {d : DataW H} {ps : List MemPlace} (hv : Value.okWide Tryd.prog W .any base 26 v)
    (h : DataW.Trod enc Tryd.prog W 0 (fun _ => true) true 26 v d ps) : ∃ r0 r1 r2 r3 r4 r5 r6 r7 r8 : Int, v = .agg #[.int .u32 r0, .int .u32 r1, .int .u32 r2, .int .u32 r3, .int .u32 r4, .int .u32 r5, .int .u32 r6, .int .u32 r7, .int .u32 r8] := by
  obtain ⟨cs, rfl, hsz⟩ := okWide_struct Tryd.underlying26 hv
  obtain ⟨fu, hf⟩ := h
  obtain ⟨xs, n, _, hx, hl, hlen, hfd⟩ := DataW.trod_struct Tryd.underlying26 hf
  rw [show Tryd.prog.cellsOf 26 = 9 by kernel_rfl] at hl
  have e0 : (Value.agg cs).cells.toList = cs.toList := rfl
  rw [e0] at hl hfd
  obtain ⟨L, hL⟩ : ∃ L, L = cs.toList := ⟨_, rfl⟩
  rw [← hL] at hl hfd
  match L, hl with
  | [c0, c1, c2, c3, c4, c5, c6, c7, c8], _ =>
    have f0 : ∃ y, DataW.trod enc Tryd.prog W 0 (fun _ => true) true n 24 ((([c0, c1, c2, c3, c4, c5, c6, c7, c8] : List Value).drop 0).take (Tryd.prog.cellsOf 24)) = some y := by
      obtain ⟨y, hy⟩ : ∃ y, xs[0]? = some y := ⟨_, List.getElem?_eq_getElem (by rw [hlen]; decide)⟩
      exact ⟨y, (hfd 0 _ rfl).trans hy⟩
    have f1 : ∃ y, DataW.trod enc Tryd.prog W 0 (fun _ => true) true n 23 ((([c0, c1, c2, c3, c4, c5, c6, c7, c8] : List Value).drop 8).take (Tryd.prog.cellsOf 23)) = some y := by
      obtain ⟨y, hy⟩ : ∃ y, xs[1]? = some y := ⟨_, List.getElem?_eq_getElem (by rw [hlen]; decide)⟩
      exact ⟨y, (hfd 1 _ rfl).trans hy⟩
    obtain ⟨y0, f0⟩ := f0
    obtain ⟨y1, f1⟩ := f1
    rw [show Tryd.prog.cellsOf 24 = 8 by kernel_rfl] at f0
    rw [show Tryd.prog.cellsOf 23 = 1 by kernel_rfl] at f1
    obtain ⟨n8, e8, _, _⟩ := DataW.trod_int Tryd.underlying23 f1
    have e8 : [c8] = [Value.int .u32 n8] := e8
    cases e8
    obtain ⟨ys, m, _, _, _, hys, hg⟩ := DataW.trod_array Tryd.underlying24 f0
    rw [show Tryd.prog.cellsOf 23 = 1 by kernel_rfl] at hg
    obtain ⟨z0, hz0⟩ : ∃ y, ys[0]? = some y := ⟨_, List.getElem?_eq_getElem (by omega)⟩
    obtain ⟨n0, e0, _, _⟩ := DataW.trod_int Tryd.underlying23 ((hg 0 (by omega)).trans hz0)
    have e0 : [c0] = [Value.int .u32 n0] := e0
    cases e0
    obtain ⟨z1, hz1⟩ : ∃ y, ys[1]? = some y := ⟨_, List.getElem?_eq_getElem (by omega)⟩
    obtain ⟨n1, e1, _, _⟩ := DataW.trod_int Tryd.underlying23 ((hg 1 (by omega)).trans hz1)
    have e1 : [c1] = [Value.int .u32 n1] := e1
    cases e1
    obtain ⟨z2, hz2⟩ : ∃ y, ys[2]? = some y := ⟨_, List.getElem?_eq_getElem (by omega)⟩
    obtain ⟨n2, e2, _, _⟩ := DataW.trod_int Tryd.underlying23 ((hg 2 (by omega)).trans hz2)
    have e2 : [c2] = [Value.int .u32 n2] := e2
    cases e2
    obtain ⟨z3, hz3⟩ : ∃ y, ys[3]? = some y := ⟨_, List.getElem?_eq_getElem (by omega)⟩
    obtain ⟨n3, e3, _, _⟩ := DataW.trod_int Tryd.underlying23 ((hg 3 (by omega)).trans hz3)
    have e3 : [c3] = [Value.int .u32 n3] := e3
    cases e3
    obtain ⟨z4, hz4⟩ : ∃ y, ys[4]? = some y := ⟨_, List.getElem?_eq_getElem (by omega)⟩
    obtain ⟨n4, e4, _, _⟩ := DataW.trod_int Tryd.underlying23 ((hg 4 (by omega)).trans hz4)
    have e4 : [c4] = [Value.int .u32 n4] := e4
    cases e4
    obtain ⟨z5, hz5⟩ : ∃ y, ys[5]? = some y := ⟨_, List.getElem?_eq_getElem (by omega)⟩
    obtain ⟨n5, e5, _, _⟩ := DataW.trod_int Tryd.underlying23 ((hg 5 (by omega)).trans hz5)
    have e5 : [c5] = [Value.int .u32 n5] := e5
    cases e5
    obtain ⟨z6, hz6⟩ : ∃ y, ys[6]? = some y := ⟨_, List.getElem?_eq_getElem (by omega)⟩
    obtain ⟨n6, e6, _, _⟩ := DataW.trod_int Tryd.underlying23 ((hg 6 (by omega)).trans hz6)
    have e6 : [c6] = [Value.int .u32 n6] := e6
    cases e6
    obtain ⟨z7, hz7⟩ : ∃ y, ys[7]? = some y := ⟨_, List.getElem?_eq_getElem (by omega)⟩
    obtain ⟨n7, e7, _, _⟩ := DataW.trod_int Tryd.underlying23 ((hg 7 (by omega)).trans hz7)
    have e7 : [c7] = [Value.int .u32 n7] := e7
    cases e7
    exact ⟨n0, n1, n2, n3, n4, n5, n6, n7, n8, by
      have : cs = (cs.toList).toArray := by simp
      rw [this, ← hL]⟩

theorem open_Cpu_full {H : Type} {enc : TypeId × Value → H} {W : World} {base : Nat} {v : Value} {d : DataW H} {ps : List MemPlace} (hv : Value.okWide Tryd.prog W .any base 26 v)
    (h : DataW.Trod enc Tryd.prog W 0 (fun _ => true) true 26 v d ps) : ∃ r0 r1 r2 r3 r4 r5 r6 r7 r8 : Int, v = .agg #[.int .u32 r0, .int .u32 r1, .int .u32 r2, .int .u32 r3, .int .u32 r4, .int .u32 r5, .int .u32 r6, .int .u32 r7, .int .u32 r8] ∧ (∀ x ∈ [r0, r1, r2, r3, r4, r5, r6, r7], 0 ≤ x ∧ x ≤ 4294967295) ∧ (0 ≤ r8 ∧ r8 ≤ 4294967295) := by
  obtain ⟨cs, rfl, hsz⟩ := okWide_struct Tryd.underlying26 hv
  obtain ⟨fu, hf⟩ := h
  obtain ⟨xs, n, _, hx, hl, hlen, hfd⟩ := DataW.trod_struct Tryd.underlying26 hf
  rw [show Tryd.prog.cellsOf 26 = 9 by kernel_rfl] at hl
  have e0 : (Value.agg cs).cells.toList = cs.toList := rfl
  rw [e0] at hl hfd
  obtain ⟨L, hL⟩ : ∃ L, L = cs.toList := ⟨_, rfl⟩
  rw [← hL] at hl hfd
  match L, hl with
  | [c0, c1, c2, c3, c4, c5, c6, c7, c8], _ =>
    have f0 : ∃ y, DataW.trod enc Tryd.prog W 0 (fun _ => true) true n 24 ((([c0, c1, c2, c3, c4, c5, c6, c7, c8] : List Value).drop 0).take (Tryd.prog.cellsOf 24)) = some y := by
      obtain ⟨y, hy⟩ : ∃ y, xs[0]? = some y := ⟨_, List.getElem?_eq_getElem (by rw [hlen]; decide)⟩
      exact ⟨y, (hfd 0 _ rfl).trans hy⟩
    have f1 : ∃ y, DataW.trod enc Tryd.prog W 0 (fun _ => true) true n 23 ((([c0, c1, c2, c3, c4, c5, c6, c7, c8] : List Value).drop 8).take (Tryd.prog.cellsOf 23)) = some y := by
      obtain ⟨y, hy⟩ : ∃ y, xs[1]? = some y := ⟨_, List.getElem?_eq_getElem (by rw [hlen]; decide)⟩
      exact ⟨y, (hfd 1 _ rfl).trans hy⟩
    obtain ⟨y0, f0⟩ := f0
    obtain ⟨y1, f1⟩ := f1
    rw [show Tryd.prog.cellsOf 24 = 8 by kernel_rfl] at f0
    rw [show Tryd.prog.cellsOf 23 = 1 by kernel_rfl] at f1
    obtain ⟨n8, e8, _, t8⟩ := DataW.trod_int Tryd.underlying23 f1
    have e8 : [c8] = [Value.int .u32 n8] := e8
    cases e8
    obtain ⟨ys, m, _, _, _, hys, hg⟩ := DataW.trod_array Tryd.underlying24 f0
    rw [show Tryd.prog.cellsOf 23 = 1 by kernel_rfl] at hg
    obtain ⟨z0, hz0⟩ : ∃ y, ys[0]? = some y := ⟨_, List.getElem?_eq_getElem (by omega)⟩
    obtain ⟨n0, e0, _, t0⟩ := DataW.trod_int Tryd.underlying23 ((hg 0 (by omega)).trans hz0)
    have e0 : [c0] = [Value.int .u32 n0] := e0
    cases e0
    obtain ⟨z1, hz1⟩ : ∃ y, ys[1]? = some y := ⟨_, List.getElem?_eq_getElem (by omega)⟩
    obtain ⟨n1, e1, _, t1⟩ := DataW.trod_int Tryd.underlying23 ((hg 1 (by omega)).trans hz1)
    have e1 : [c1] = [Value.int .u32 n1] := e1
    cases e1
    obtain ⟨z2, hz2⟩ : ∃ y, ys[2]? = some y := ⟨_, List.getElem?_eq_getElem (by omega)⟩
    obtain ⟨n2, e2, _, t2⟩ := DataW.trod_int Tryd.underlying23 ((hg 2 (by omega)).trans hz2)
    have e2 : [c2] = [Value.int .u32 n2] := e2
    cases e2
    obtain ⟨z3, hz3⟩ : ∃ y, ys[3]? = some y := ⟨_, List.getElem?_eq_getElem (by omega)⟩
    obtain ⟨n3, e3, _, t3⟩ := DataW.trod_int Tryd.underlying23 ((hg 3 (by omega)).trans hz3)
    have e3 : [c3] = [Value.int .u32 n3] := e3
    cases e3
    obtain ⟨z4, hz4⟩ : ∃ y, ys[4]? = some y := ⟨_, List.getElem?_eq_getElem (by omega)⟩
    obtain ⟨n4, e4, _, t4⟩ := DataW.trod_int Tryd.underlying23 ((hg 4 (by omega)).trans hz4)
    have e4 : [c4] = [Value.int .u32 n4] := e4
    cases e4
    obtain ⟨z5, hz5⟩ : ∃ y, ys[5]? = some y := ⟨_, List.getElem?_eq_getElem (by omega)⟩
    obtain ⟨n5, e5, _, t5⟩ := DataW.trod_int Tryd.underlying23 ((hg 5 (by omega)).trans hz5)
    have e5 : [c5] = [Value.int .u32 n5] := e5
    cases e5
    obtain ⟨z6, hz6⟩ : ∃ y, ys[6]? = some y := ⟨_, List.getElem?_eq_getElem (by omega)⟩
    obtain ⟨n6, e6, _, t6⟩ := DataW.trod_int Tryd.underlying23 ((hg 6 (by omega)).trans hz6)
    have e6 : [c6] = [Value.int .u32 n6] := e6
    cases e6
    obtain ⟨z7, hz7⟩ : ∃ y, ys[7]? = some y := ⟨_, List.getElem?_eq_getElem (by omega)⟩
    obtain ⟨n7, e7, _, t7⟩ := DataW.trod_int Tryd.underlying23 ((hg 7 (by omega)).trans hz7)
    have e7 : [c7] = [Value.int .u32 n7] := e7
    cases e7
    refine ⟨n0, n1, n2, n3, n4, n5, n6, n7, n8, by
      have : cs = (cs.toList).toArray := by simp
      rw [this, ← hL], fun x hx => ?_, bounds_u32 t8⟩
    simp only [List.mem_cons, List.not_mem_nil, or_false] at hx
    rcases hx with rfl | rfl | rfl | rfl | rfl | rfl | rfl | rfl
    · exact bounds_u32 t0
    · exact bounds_u32 t1
    · exact bounds_u32 t2
    · exact bounds_u32 t3
    · exact bounds_u32 t4
    · exact bounds_u32 t5
    · exact bounds_u32 t6
    · exact bounds_u32 t7

end Go.Proofs.YtlbebneblmgdcaaDoor
