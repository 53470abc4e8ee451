/- Slices of api.Perm that came in. (Printed by wip/gen_open.py.) -/
import Derived.Test.YthchkhfnhhpleaaDoorOpenBytS
import Derived.Test.YthchkhfnhhpleaaDoorPathPure2
import Derived.ChangeArms
namespace Go.Proofs.YthchkhfnhhpleaaDoor
open Go.ChangeShapes Go.WideShapes Go.ChangeAt Go.RowKit
set_option maxRecDepth 100000

def Pm.cells (o : Pm) : List Value := [.int .i64 o.dom, .bool o.read, .bool o.write]
structure Pm.ok (o : Pm) (w : World) : Prop where
  w_dom : (Lit.int .i64 o.dom).wf = true
structure PmS (w : World) (p : Option Addr) (l : List Pm) : Prop where
  ok : ∀ o ∈ l, o.ok w
  at_ : 0 < l.length → ∃ b off, p = some ⟨b, off, none⟩ ∧ b < w.heap.size ∧ ∀ i o, l[i]? = some o → ∀ j v, o.cells[j]? = some v → w.cell? ⟨b, off + (i * 3 + j), none⟩ = some v

theorem Pm.ok.kept {o : Pm} {w w' : World} (h : o.ok w) (_hm : Mod No w w') : o.ok w' := ⟨h.w_dom⟩
theorem PmS.kept {w w' : World} {p : Option Addr} {l : List Pm} (h : PmS w p l) (hm : Mod No w w') : PmS w' p l := by
  refine ⟨fun o ho => (h.ok o ho).kept hm, fun h0 => ?_⟩
  obtain ⟨b, off, e, hb, hc⟩ := h.at_ h0
  exact ⟨b, off, e, Nat.lt_of_lt_of_le hb hm.size, fun i o hi j v hj => (World.cell?_of_block (w := w) (hm.block b hb (fun q => q))).trans (hc i o hi j v hj)⟩
theorem PmS.cellsAt {w : World} {p : Option Addr} {l : List Pm} (h : PmS w p l) {i : Nat} {o : Pm} (hi : l[i]? = some o) : ∃ b off, p = some ⟨b, off, none⟩ ∧ b < w.heap.size ∧
    w.cell? ⟨b, off + i * 3, none⟩ = some (.int .i64 o.dom) ∧
    w.cell? ⟨b, off + i * 3 + 1, none⟩ = some (.bool o.read) ∧
    w.cell? ⟨b, off + i * 3 + 2, none⟩ = some (.bool o.write) := by
  have hlt := (List.getElem?_eq_some_iff.1 hi).1
  obtain ⟨b, off, e, hb, hc⟩ := h.at_ (by omega)
  exact ⟨b, off, e, hb, hc i o hi 0 _ rfl, hc i o hi 1 _ rfl, hc i o hi 2 _ rfl⟩

theorem row_cellsPm : Tryd.prog.cellsOf 60 = 3 := by kernel_rfl
theorem row_bytesPm : Tryd.prog.bytesOf 60 = 16 := by kernel_rfl

theorem open_Pm {H : Type} {enc : TypeId × Value → H} {W : World} {fuel : Nat} {cs : List Value} {x : DataW H × List MemPlace}
    (h : DataW.trod enc Tryd.prog W 0 (fun _ => true) true fuel 60 cs = some x) (_hsz : ∀ n ∈ x.1.weights Tryd.prog 60, n ≤ 140737488355328) :
    ∃ o : Pm, cs = o.cells ∧ o.ok W := by
  obtain ⟨xs, n, _, rfl, hl, hlen, hf⟩ := DataW.trod_struct Tryd.underlying60 h
  rw [row_cellsPm] at hl
  match cs, hl with
  | [c0, c1, c2], _ =>
    match xs, hlen with
    | [y0, y1, y2], _ =>
      have f0 : DataW.trod enc Tryd.prog W 0 (fun _ => true) true n 3 ((([c0, c1, c2] : List Value).drop 0).take (Tryd.prog.cellsOf 3)) = some y0 := hf 0 _ rfl
      rw [show Tryd.prog.cellsOf 3 = 1 by kernel_rfl] at f0
      have f1 : DataW.trod enc Tryd.prog W 0 (fun _ => true) true n 4 ((([c0, c1, c2] : List Value).drop 1).take (Tryd.prog.cellsOf 4)) = some y1 := hf 1 _ rfl
      rw [show Tryd.prog.cellsOf 4 = 1 by kernel_rfl] at f1
      have f2 : DataW.trod enc Tryd.prog W 0 (fun _ => true) true n 4 ((([c0, c1, c2] : List Value).drop 2).take (Tryd.prog.cellsOf 4)) = some y2 := hf 2 _ rfl
      rw [show Tryd.prog.cellsOf 4 = 1 by kernel_rfl] at f2
      obtain ⟨n0, e0, _, z0⟩ := DataW.trod_int Tryd.underlying3 f0
      have e0 : [c0] = [Value.int .i64 n0] := e0
      cases e0
      obtain ⟨n1, e1, _⟩ := DataW.trod_bool Tryd.underlying4 f1
      have e1 : [c1] = [Value.bool n1] := e1
      cases e1
      obtain ⟨n2, e2, _⟩ := DataW.trod_bool Tryd.underlying4 f2
      have e2 : [c2] = [Value.bool n2] := e2
      cases e2
      exact ⟨⟨n0, n1, n2⟩, rfl, ⟨z0⟩⟩

theorem open_Pms {H : Type} {enc : TypeId × Value → H} {W : World} {fuel : Nat} {cs : List Value} {x : DataW H × List MemPlace}
    (h : DataW.trod enc Tryd.prog W 0 (fun _ => true) true fuel 37 cs = some x) (hsz : ∀ n ∈ x.1.weights Tryd.prog 37, n ≤ 140737488355328) :
    ∃ (p : Option Addr) (cap : Nat) (ops : List Pm), cs = [.slice p ops.length cap] ∧ (ops.length ≤ cap ∧ (p = none → cap = 0)) ∧ ops.length * 16 ≤ 140737488355328 ∧ PmS W p ops := by
  rcases Go.Deep.open_slice Tryd.underlying37 h with ⟨hcs, _⟩ | ⟨a, len, cap, m, n, D, Pl, hcs, _, hl, _, hmm, hx, hel⟩
  · exact ⟨none, 0, [], hcs, ⟨Nat.le_refl _, fun _ => rfl⟩, by simp, by simp, by simp⟩
  · simp only [if_true] at hmm
    have hd : x.1 = .slice ((List.range len).map D) ((List.range (m - len)).map fun j => D (len + j)) := by rw [hx]
    rw [hd] at hsz
    have hw : (len + (m - len)) * 16 ≤ 140737488355328 := by
      have := hsz ((len + (m - len)) * 16) (by simp [DataW.weights, Tryd.underlying37, row_bytesPm])
      exact this
    have hin : ∀ i, i < len → ∀ n ∈ (D i).weights Tryd.prog 60, n ≤ 140737488355328 := by
      intro i hi n hn
      refine hsz n ?_
      simp only [DataW.weights, Tryd.underlying37]
      exact List.mem_cons_of_mem _ (List.mem_append_left _ (weights_each _ n hn _ (List.mem_map_of_mem (List.mem_range.2 hi))))
    have each : ∀ i, i < len → ∃ o : Pm, o.ok W ∧ ∀ j v, o.cells[j]? = some v → W.cell? (a.add (i * 3 + j)) = some v := by
      intro i hi
      obtain ⟨cs, h1, h2⟩ := hel i (by omega)
      obtain ⟨o, rfl, hok⟩ := open_Pm h2 (hin i hi)
      obtain ⟨_, hlen, hc⟩ := World.cells?_some h1
      rw [row_cellsPm] at hc hlen
      refine ⟨o, hok, fun j v hj => ?_⟩
      have hjl : j < 3 := by have := (List.getElem?_eq_some_iff.1 hj).1; rw [hlen] at this; exact this
      rw [← Go.Deep.add_add, hc j hjl, hj]
    obtain ⟨f, hfo⟩ : ∃ f : Nat → Pm, ∀ i, i < len → (f i).ok W ∧ ∀ j v, (f i).cells[j]? = some v → W.cell? (a.add (i * 3 + j)) = some v := by
      refine ⟨fun i => if h : i < len then (each i h).choose else ⟨0, false, false⟩, fun i hi => ?_⟩
      simp only [hi, dif_pos]
      exact (each i hi).choose_spec
    have hle : ((List.range len).map f).length = len := by simp
    refine ⟨some a, cap, (List.range len).map f, by rw [hle]; exact hcs, ⟨by rw [hle]; exact hl, fun e => by cases e⟩, by rw [hle]; omega, ?_, fun h0 => ?_⟩
    · intro o ho
      obtain ⟨i, hi, rfl⟩ := List.mem_map.1 ho
      exact (hfo i (List.mem_range.1 hi)).1
    · rw [hle] at h0
      have hc0 := (hfo 0 h0).2 0 _ rfl
      obtain ⟨b, off, spot⟩ := a
      have hspot : spot = none := by simpa [Addr.add] using World.cell?_spot hc0
      subst hspot
      refine ⟨b, off, rfl, ?_, fun i o hi j v hj => ?_⟩
      · have := World.block_lt_of_cell? W _ hc0
        simpa [Addr.add] using this
      · have hil := (List.getElem?_eq_some_iff.1 hi).1
        rw [hle] at hil
        have ho : o = f i := by
          rw [List.getElem?_map, List.getElem?_range hil] at hi
          exact (Option.some.inj hi).symm
        subst ho
        have := (hfo i hil).2 j v hj
        rwa [Addr.add_lit] at this

theorem open_Pms_arg {H : Type} {enc : TypeId × Value → H} {W : World} {base : Nat} {v : Value} {d : DataW H} {ps : List MemPlace} (_hv : Value.okWide Tryd.prog W .any base 37 v)
    (h : DataW.Trod enc Tryd.prog W 0 (fun _ => true) true 37 v d ps) (hsz : ∀ n ∈ d.weights Tryd.prog 37, n ≤ 140737488355328) :
    ∃ (p : Option Addr) (cap : Nat) (ops : List Pm), v = .slice p ops.length cap ∧ (ops.length ≤ cap ∧ (p = none → cap = 0)) ∧ ops.length * 16 ≤ 140737488355328 ∧ PmS W p ops := by
  obtain ⟨a0, l0, c0, rfl⟩ := okWide_slice Tryd.underlying37 _hv
  obtain ⟨fuel, hf⟩ := h
  obtain ⟨p, cap, ops, e, r⟩ := open_Pms hf hsz
  have e : [Value.slice a0 l0 c0] = [Value.slice p ops.length cap] := e
  exact ⟨p, cap, ops, (List.cons.inj e).1, r⟩

end Go.Proofs.YthchkhfnhhpleaaDoor

