/- Slices of tenementlaw04.Put that came in. (Printed by wip/gen_open.py.) -/
import Derived.Test.YtpfjpfepbhfmeaaOpenByt
namespace Go.Proofs.Ytpfjpfepbhfmeaa
open Go.ChangeShapes Go.WideShapes Go.ChangeAt Go.RowKit
set_option maxRecDepth 100000

structure PutD where
  table : Int
  index : Int
  value : Int

def PutD.cells (o : PutD) : List Value := [.int .i64 o.table, .int .i64 o.index, .int .u32 o.value]
structure PutD.ok (o : PutD) (w : World) : Prop where
  w_table : (Lit.int .i64 o.table).wf = true
  w_index : (Lit.int .i64 o.index).wf = true
  w_value : (Lit.int .u32 o.value).wf = true
structure PutDS (w : World) (p : Option Addr) (l : List PutD) : Prop where
  ok : ∀ o ∈ l, o.ok w
  at_ : 0 < l.length → ∃ b off, p = some ⟨b, off, none⟩ ∧ b < w.heap.size ∧ ∀ i o, l[i]? = some o → ∀ j v, o.cells[j]? = some v → w.cell? ⟨b, off + (i * 3 + j), none⟩ = some v

theorem PutD.ok.kept {o : PutD} {w w' : World} (h : o.ok w) (_hm : Mod No w w') : o.ok w' := ⟨h.w_table, h.w_index, h.w_value⟩
theorem PutDS.kept {w w' : World} {p : Option Addr} {l : List PutD} (h : PutDS w p l) (hm : Mod No w w') : PutDS w' p l := by
  refine ⟨fun o ho => (h.ok o ho).kept hm, fun h0 => ?_⟩
  obtain ⟨b, off, e, hb, hc⟩ := h.at_ h0
  exact ⟨b, off, e, Nat.lt_of_lt_of_le hb hm.size, fun i o hi j v hj => (World.cell?_of_block (w := w) (hm.block b hb (fun q => q))).trans (hc i o hi j v hj)⟩
theorem PutDS.cellsAt {w : World} {p : Option Addr} {l : List PutD} (h : PutDS w p l) {i : Nat} {o : PutD} (hi : l[i]? = some o) : ∃ b off, p = some ⟨b, off, none⟩ ∧ b < w.heap.size ∧
    w.cell? ⟨b, off + i * 3, none⟩ = some (.int .i64 o.table) ∧
    w.cell? ⟨b, off + i * 3 + 1, none⟩ = some (.int .i64 o.index) ∧
    w.cell? ⟨b, off + i * 3 + 2, none⟩ = some (.int .u32 o.value) := by
  have hlt := (List.getElem?_eq_some_iff.1 hi).1
  obtain ⟨b, off, e, hb, hc⟩ := h.at_ (by omega)
  exact ⟨b, off, e, hb, hc i o hi 0 _ rfl, hc i o hi 1 _ rfl, hc i o hi 2 _ rfl⟩

theorem row_cellsPutD : Try.prog.cellsOf 168 = 3 := by kernel_rfl
theorem row_bytesPutD : Try.prog.bytesOf 168 = 24 := by kernel_rfl

theorem open_PutD {H : Type} {enc : TypeId × Value → H} {W : World} {fuel : Nat} {cs : List Value} {x : DataW H × List MemPlace}
    (h : DataW.trod enc Try.prog W 0 (fun _ => true) true fuel 168 cs = some x) (hsz : ∀ n ∈ x.1.weights Try.prog 168, n ≤ 140737488355328) :
    ∃ o : PutD, cs = o.cells ∧ o.ok W := by
  obtain ⟨xs, n, _, rfl, hl, hlen, hf⟩ := DataW.trod_struct Try.underlying168 h
  rw [row_cellsPutD] at hl
  match cs, hl with
  | [c0, c1, c2], _ =>
    match xs, hlen with
    | [y0, y1, y2], _ =>
      have f0 : DataW.trod enc Try.prog W 0 (fun _ => true) true n 3 ((([c0, c1, c2] : List Value).drop 0).take (Try.prog.cellsOf 3)) = some y0 := hf 0 _ rfl
      rw [show Try.prog.cellsOf 3 = 1 by kernel_rfl] at f0
      have f1 : DataW.trod enc Try.prog W 0 (fun _ => true) true n 3 ((([c0, c1, c2] : List Value).drop 1).take (Try.prog.cellsOf 3)) = some y1 := hf 1 _ rfl
      rw [show Try.prog.cellsOf 3 = 1 by kernel_rfl] at f1
      have f2 : DataW.trod enc Try.prog W 0 (fun _ => true) true n 65 ((([c0, c1, c2] : List Value).drop 2).take (Try.prog.cellsOf 65)) = some y2 := hf 2 _ rfl
      rw [show Try.prog.cellsOf 65 = 1 by kernel_rfl] at f2
      obtain ⟨n0, e0, _, z0⟩ := DataW.trod_int Try.underlying3 f0
      have e0 : [c0] = [Value.int .i64 n0] := e0
      cases e0
      obtain ⟨n1, e1, _, z1⟩ := DataW.trod_int Try.underlying3 f1
      have e1 : [c1] = [Value.int .i64 n1] := e1
      cases e1
      obtain ⟨n2, e2, _, z2⟩ := DataW.trod_int Try.underlying65 f2
      have e2 : [c2] = [Value.int .u32 n2] := e2
      cases e2
      exact ⟨⟨n0, n1, n2⟩, rfl, ⟨z0, z1, z2⟩⟩

theorem open_PutDs {H : Type} {enc : TypeId × Value → H} {W : World} {fuel : Nat} {cs : List Value} {x : DataW H × List MemPlace}
    (h : DataW.trod enc Try.prog W 0 (fun _ => true) true fuel 64 cs = some x) (hsz : ∀ n ∈ x.1.weights Try.prog 64, n ≤ 140737488355328) :
    ∃ (p : Option Addr) (cap : Nat) (ops : List PutD), cs = [.slice p ops.length cap] ∧ ops.length ≤ cap ∧ ops.length * 24 ≤ 140737488355328 ∧ PutDS W p ops := by
  rcases Go.Deep.open_slice Try.underlying64 h with ⟨hcs, _⟩ | ⟨a, len, cap, m, n, D, Pl, hcs, _, hl, _, hmm, hx, hel⟩
  · exact ⟨none, 0, [], hcs, Nat.le_refl _, by simp, by simp, by simp⟩
  · simp only [if_true] at hmm
    have hd : x.1 = .slice ((List.range len).map D) ((List.range (m - len)).map fun j => D (len + j)) := by rw [hx]
    rw [hd] at hsz
    have hw : (len + (m - len)) * 24 ≤ 140737488355328 := by
      have := hsz ((len + (m - len)) * 24) (by simp [DataW.weights, Try.underlying64, row_bytesPutD])
      exact this
    have hin : ∀ i, i < len → ∀ n ∈ (D i).weights Try.prog 168, n ≤ 140737488355328 := by
      intro i hi n hn
      refine hsz n ?_
      simp only [DataW.weights, Try.underlying64]
      exact List.mem_cons_of_mem _ (List.mem_append_left _ (weights_each _ n hn _ (List.mem_map_of_mem (List.mem_range.2 hi))))
    have each : ∀ i, i < len → ∃ o : PutD, o.ok W ∧ ∀ j v, o.cells[j]? = some v → W.cell? (a.add (i * 3 + j)) = some v := by
      intro i hi
      obtain ⟨cs, h1, h2⟩ := hel i (by omega)
      obtain ⟨o, rfl, hok⟩ := open_PutD h2 (hin i hi)
      obtain ⟨_, hlen, hc⟩ := World.cells?_some h1
      rw [row_cellsPutD] at hc hlen
      refine ⟨o, hok, fun j v hj => ?_⟩
      have hjl : j < 3 := by have := (List.getElem?_eq_some_iff.1 hj).1; rw [hlen] at this; exact this
      rw [← Go.Deep.add_add, hc j hjl, hj]
    obtain ⟨f, hfo⟩ : ∃ f : Nat → PutD, ∀ i, i < len → (f i).ok W ∧ ∀ j v, (f i).cells[j]? = some v → W.cell? (a.add (i * 3 + j)) = some v := by
      refine ⟨fun i => if h : i < len then (each i h).choose else ⟨0, 0, 0⟩, fun i hi => ?_⟩
      simp only [hi, dif_pos]
      exact (each i hi).choose_spec
    have hle : ((List.range len).map f).length = len := by simp
    refine ⟨some a, cap, (List.range len).map f, by rw [hle]; exact hcs, by rw [hle]; exact hl, by rw [hle]; omega, ?_, fun h0 => ?_⟩
    · intro o ho
      obtain ⟨i, hi, rfl⟩ := List.mem_map.1 ho
      exact (hfo i (List.mem_range.1 hi)).1
    · rw [hle] at h0
      have hc0 := (hfo 0 h0).2 0 _ rfl
      obtain ⟨b, off, spot⟩ := a
      have hspot : spot = none := by simpa [Addr.add] using World.cell?_spot hc0
      subst hspot
      refine ⟨b, off, rfl, ?_, fun i o hi j v hj => ?_⟩
      · have := World.block_lt_of_cell? W _ hc0
        simpa [Addr.add] using this
      · have hil := (List.getElem?_eq_some_iff.1 hi).1
        rw [hle] at hil
        have ho : o = f i := by
          rw [List.getElem?_map, List.getElem?_range hil] at hi
          exact (Option.some.inj hi).symm
        subst ho
        have := (hfo i hil).2 j v hj
        rwa [Addr.add_lit] at this

theorem open_PutDs_arg {H : Type} {enc : TypeId × Value → H} {W : World} {base : Nat} {v : Value} {d : DataW H} {ps : List MemPlace} (_hv : Value.okWide Try.prog W .any base 64 v)
    (h : DataW.Trod enc Try.prog W 0 (fun _ => true) true 64 v d ps) (hsz : ∀ n ∈ d.weights Try.prog 64, n ≤ 140737488355328) :
    ∃ (p : Option Addr) (cap : Nat) (ops : List PutD), v = .slice p ops.length cap ∧ ops.length ≤ cap ∧ ops.length * 24 ≤ 140737488355328 ∧ PutDS W p ops := by
  obtain ⟨a0, l0, c0, rfl⟩ := okWide_slice Try.underlying64 _hv
  obtain ⟨fuel, hf⟩ := h
  obtain ⟨p, cap, ops, e, r⟩ := open_PutDs hf hsz
  have e : [Value.slice a0 l0 c0] = [Value.slice p ops.length cap] := e
  exact ⟨p, cap, ops, (List.cons.inj e).1, r⟩

end Go.Proofs.Ytpfjpfepbhfmeaa

