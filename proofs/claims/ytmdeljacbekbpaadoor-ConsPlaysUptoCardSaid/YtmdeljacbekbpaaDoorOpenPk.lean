/- Slices of api.Poke that came in. (Printed by wip/gen_open.py.) -/
import Derived.Test.YtmdeljacbekbpaaDoorOpenByt
namespace Go.Proofs.YtmdeljacbekbpaaDoor
open Go.ChangeShapes Go.WideShapes Go.ChangeAt Go.RowKit
set_option maxRecDepth 100000

structure Pk where
  at_ : Int
  mfn : Int
  off : Int
  bq : Option Addr
  bs : List Int
  bc : Nat

def Pk.cells (o : Pk) : List Value := [.int .i64 o.at_, .int .i64 o.mfn, .int .i64 o.off, .slice o.bq o.bs.length o.bc]
structure Pk.ok (o : Pk) (w : World) : Prop where
  w_at_ : (Lit.int .i64 o.at_).wf = true
  w_mfn : (Lit.int .i64 o.mfn).wf = true
  w_off : (Lit.int .i64 o.off).wf = true
  b : Byt w o.bq o.bs o.bc
structure PkS (w : World) (p : Option Addr) (l : List Pk) : Prop where
  ok : ∀ o ∈ l, o.ok w
  at_ : 0 < l.length → ∃ b off, p = some ⟨b, off, none⟩ ∧ b < w.heap.size ∧ ∀ i o, l[i]? = some o → ∀ j v, o.cells[j]? = some v → w.cell? ⟨b, off + (i * 4 + j), none⟩ = some v

theorem Pk.ok.kept {o : Pk} {w w' : World} (h : o.ok w) (hm : Mod No w w') : o.ok w' := ⟨h.w_at_, h.w_mfn, h.w_off, h.b.kept hm⟩
theorem PkS.kept {w w' : World} {p : Option Addr} {l : List Pk} (h : PkS w p l) (hm : Mod No w w') : PkS w' p l := by
  refine ⟨fun o ho => (h.ok o ho).kept hm, fun h0 => ?_⟩
  obtain ⟨b, off, e, hb, hc⟩ := h.at_ h0
  exact ⟨b, off, e, Nat.lt_of_lt_of_le hb hm.size, fun i o hi j v hj => (World.cell?_of_block (w := w) (hm.block b hb (fun q => q))).trans (hc i o hi j v hj)⟩
theorem PkS.cellsAt {w : World} {p : Option Addr} {l : List Pk} (h : PkS w p l) {i : Nat} {o : Pk} (hi : l[i]? = some o) : ∃ b off, p = some ⟨b, off, none⟩ ∧ b < w.heap.size ∧
    w.cell? ⟨b, off + i * 4, none⟩ = some (.int .i64 o.at_) ∧
    w.cell? ⟨b, off + i * 4 + 1, none⟩ = some (.int .i64 o.mfn) ∧
    w.cell? ⟨b, off + i * 4 + 2, none⟩ = some (.int .i64 o.off) ∧
    w.cell? ⟨b, off + i * 4 + 3, none⟩ = some (.slice o.bq o.bs.length o.bc) := by
  have hlt := (List.getElem?_eq_some_iff.1 hi).1
  obtain ⟨b, off, e, hb, hc⟩ := h.at_ (by omega)
  exact ⟨b, off, e, hb, hc i o hi 0 _ rfl, hc i o hi 1 _ rfl, hc i o hi 2 _ rfl, hc i o hi 3 _ rfl⟩

theorem row_cellsPk : Tryd.prog.cellsOf 99 = 4 := by kernel_rfl
theorem row_bytesPk : Tryd.prog.bytesOf 99 = 48 := by kernel_rfl

theorem open_Pk {H : Type} {enc : TypeId × Value → H} {W : World} {fuel : Nat} {cs : List Value} {x : DataW H × List MemPlace}
    (h : DataW.trod enc Tryd.prog W 0 (fun _ => true) true fuel 99 cs = some x) (hsz : ∀ n ∈ x.1.weights Tryd.prog 99, n ≤ 140737488355328) :
    ∃ o : Pk, cs = o.cells ∧ o.ok W := by
  obtain ⟨xs, n, _, rfl, hl, hlen, hf⟩ := DataW.trod_struct Tryd.underlying99 h
  rw [row_cellsPk] at hl
  match cs, hl with
  | [c0, c1, c2, c3], _ =>
    match xs, hlen with
    | [y0, y1, y2, y3], _ =>
      have f0 : DataW.trod enc Tryd.prog W 0 (fun _ => true) true n 3 ((([c0, c1, c2, c3] : List Value).drop 0).take (Tryd.prog.cellsOf 3)) = some y0 := hf 0 _ rfl
      rw [show Tryd.prog.cellsOf 3 = 1 by kernel_rfl] at f0
      have f1 : DataW.trod enc Tryd.prog W 0 (fun _ => true) true n 3 ((([c0, c1, c2, c3] : List Value).drop 1).take (Tryd.prog.cellsOf 3)) = some y1 := hf 1 _ rfl
      rw [show Tryd.prog.cellsOf 3 = 1 by kernel_rfl] at f1
      have f2 : DataW.trod enc Tryd.prog W 0 (fun _ => true) true n 3 ((([c0, c1, c2, c3] : List Value).drop 2).take (Tryd.prog.cellsOf 3)) = some y2 := hf 2 _ rfl
      rw [show Tryd.prog.cellsOf 3 = 1 by kernel_rfl] at f2
      have f3 : DataW.trod enc Tryd.prog W 0 (fun _ => true) true n 22 ((([c0, c1, c2, c3] : List Value).drop 3).take (Tryd.prog.cellsOf 22)) = some y3 := hf 3 _ rfl
      rw [show Tryd.prog.cellsOf 22 = 1 by kernel_rfl] at f3
      obtain ⟨n0, e0, _, z0⟩ := DataW.trod_int Tryd.underlying3 f0
      have e0 : [c0] = [Value.int .i64 n0] := e0
      cases e0
      obtain ⟨n1, e1, _, z1⟩ := DataW.trod_int Tryd.underlying3 f1
      have e1 : [c1] = [Value.int .i64 n1] := e1
      cases e1
      obtain ⟨n2, e2, _, z2⟩ := DataW.trod_int Tryd.underlying3 f2
      have e2 : [c2] = [Value.int .i64 n2] := e2
      cases e2
      obtain ⟨q3, cap3, bs3, e3, hb3⟩ := open_byt f3 (fun n hn => hsz n (by
        simp only [DataW.weights, Tryd.underlying99, List.map_cons, List.map_nil]
        exact DataW.weights_mem_each (j := 3) rfl rfl _ hn))
      have e3 : [c3] = [Value.slice q3 bs3.length cap3] := e3
      cases e3
      exact ⟨⟨n0, n1, n2, q3, bs3, cap3⟩, rfl, ⟨z0, z1, z2, hb3⟩⟩

theorem open_Pks {H : Type} {enc : TypeId × Value → H} {W : World} {fuel : Nat} {cs : List Value} {x : DataW H × List MemPlace}
    (h : DataW.trod enc Tryd.prog W 0 (fun _ => true) true fuel 68 cs = some x) (hsz : ∀ n ∈ x.1.weights Tryd.prog 68, n ≤ 140737488355328) :
    ∃ (p : Option Addr) (cap : Nat) (ops : List Pk), cs = [.slice p ops.length cap] ∧ ops.length ≤ cap ∧ ops.length * 48 ≤ 140737488355328 ∧ PkS W p ops := by
  rcases Go.Deep.open_slice Tryd.underlying68 h with ⟨hcs, _⟩ | ⟨a, len, cap, m, n, D, Pl, hcs, _, hl, _, hmm, hx, hel⟩
  · exact ⟨none, 0, [], hcs, Nat.le_refl _, by simp, by simp, by simp⟩
  · simp only [if_true] at hmm
    have hd : x.1 = .slice ((List.range len).map D) ((List.range (m - len)).map fun j => D (len + j)) := by rw [hx]
    rw [hd] at hsz
    have hw : (len + (m - len)) * 48 ≤ 140737488355328 := by
      have := hsz ((len + (m - len)) * 48) (by simp [DataW.weights, Tryd.underlying68, row_bytesPk])
      exact this
    have hin : ∀ i, i < len → ∀ n ∈ (D i).weights Tryd.prog 99, n ≤ 140737488355328 := by
      intro i hi n hn
      refine hsz n ?_
      simp only [DataW.weights, Tryd.underlying68]
      exact List.mem_cons_of_mem _ (List.mem_append_left _ (weights_each _ n hn _ (List.mem_map_of_mem (List.mem_range.2 hi))))
    have each : ∀ i, i < len → ∃ o : Pk, o.ok W ∧ ∀ j v, o.cells[j]? = some v → W.cell? (a.add (i * 4 + j)) = some v := by
      intro i hi
      obtain ⟨cs, h1, h2⟩ := hel i (by omega)
      obtain ⟨o, rfl, hok⟩ := open_Pk h2 (hin i hi)
      obtain ⟨_, hlen, hc⟩ := World.cells?_some h1
      rw [row_cellsPk] at hc hlen
      refine ⟨o, hok, fun j v hj => ?_⟩
      have hjl : j < 4 := by have := (List.getElem?_eq_some_iff.1 hj).1; rw [hlen] at this; exact this
      rw [← Go.Deep.add_add, hc j hjl, hj]
    obtain ⟨f, hfo⟩ : ∃ f : Nat → Pk, ∀ i, i < len → (f i).ok W ∧ ∀ j v, (f i).cells[j]? = some v → W.cell? (a.add (i * 4 + j)) = some v := by
      refine ⟨fun i => if h : i < len then (each i h).choose else ⟨0, 0, 0, none, [], 0⟩, fun i hi => ?_⟩
      simp only [hi, dif_pos]
      exact (each i hi).choose_spec
    have hle : ((List.range len).map f).length = len := by simp
    refine ⟨some a, cap, (List.range len).map f, by rw [hle]; exact hcs, by rw [hle]; exact hl, by rw [hle]; omega, ?_, fun h0 => ?_⟩
    · intro o ho
      obtain ⟨i, hi, rfl⟩ := List.mem_map.1 ho
      exact (hfo i (List.mem_range.1 hi)).1
    · rw [hle] at h0
      have hc0 := (hfo 0 h0).2 0 _ rfl
      obtain ⟨b, off, spot⟩ := a
      have hspot : spot = none := by simpa [Addr.add] using World.cell?_spot hc0
      subst hspot
      refine ⟨b, off, rfl, ?_, fun i o hi j v hj => ?_⟩
      · have := World.block_lt_of_cell? W _ hc0
        simpa [Addr.add] using this
      · have hil := (List.getElem?_eq_some_iff.1 hi).1
        rw [hle] at hil
        have ho : o = f i := by
          rw [List.getElem?_map, List.getElem?_range hil] at hi
          exact (Option.some.inj hi).symm
        subst ho
        have := (hfo i hil).2 j v hj
        rwa [Addr.add_lit] at this

theorem open_Pks_arg {H : Type} {enc : TypeId × Value → H} {W : World} {base : Nat} {v : Value} {d : DataW H} {ps : List MemPlace} (_hv : Value.okWide Tryd.prog W .any base 68 v)
    (h : DataW.Trod enc Tryd.prog W 0 (fun _ => true) true 68 v d ps) (hsz : ∀ n ∈ d.weights Tryd.prog 68, n ≤ 140737488355328) :
    ∃ (p : Option Addr) (cap : Nat) (ops : List Pk), v = .slice p ops.length cap ∧ ops.length ≤ cap ∧ ops.length * 48 ≤ 140737488355328 ∧ PkS W p ops := by
  obtain ⟨a0, l0, c0, rfl⟩ := okWide_slice Tryd.underlying68 _hv
  obtain ⟨fuel, hf⟩ := h
  obtain ⟨p, cap, ops, e, r⟩ := open_Pks hf hsz
  have e : [Value.slice a0 l0 c0] = [Value.slice p ops.length cap] := e
  exact ⟨p, cap, ops, (List.cons.inj e).1, r⟩

end Go.Proofs.YtmdeljacbekbpaaDoor

