/- Slices of tenementlaw16.Op that came in. (Printed by wip/gen_open.py.) -/
import Derived.Test.YtmdeljacbekbpaaDoorOpenByt
import Derived.Test.YtmdeljacbekbpaaDoorOpenPk
namespace Go.Proofs.YtmdeljacbekbpaaDoor
open Go.ChangeShapes Go.WideShapes Go.ChangeAt Go.RowKit
set_option maxRecDepth 100000

structure COp where
  what : Int
  off : Int
  bq : Option Addr
  bs : List Int
  bc : Nat
  pq : Option Addr
  ps : List Pk
  pc : Nat

def COp.cells (o : COp) : List Value := [.int .i64 o.what, .int .i64 o.off, .slice o.bq o.bs.length o.bc, .slice o.pq o.ps.length o.pc]
structure COp.ok (o : COp) (w : World) : Prop where
  w_what : (Lit.int .i64 o.what).wf = true
  w_off : (Lit.int .i64 o.off).wf = true
  b : Byt w o.bq o.bs o.bc
  p : PkS w o.pq o.ps
  pl : o.ps.length ≤ o.pc ∧ o.ps.length * 48 ≤ 140737488355328
structure COpS (w : World) (p : Option Addr) (l : List COp) : Prop where
  ok : ∀ o ∈ l, o.ok w
  at_ : 0 < l.length → ∃ b off, p = some ⟨b, off, none⟩ ∧ b < w.heap.size ∧ ∀ i o, l[i]? = some o → ∀ j v, o.cells[j]? = some v → w.cell? ⟨b, off + (i * 4 + j), none⟩ = some v

theorem COp.ok.kept {o : COp} {w w' : World} (h : o.ok w) (hm : Mod No w w') : o.ok w' := ⟨h.w_what, h.w_off, h.b.kept hm, h.p.kept hm, h.pl⟩
theorem COpS.kept {w w' : World} {p : Option Addr} {l : List COp} (h : COpS w p l) (hm : Mod No w w') : COpS w' p l := by
  refine ⟨fun o ho => (h.ok o ho).kept hm, fun h0 => ?_⟩
  obtain ⟨b, off, e, hb, hc⟩ := h.at_ h0
  exact ⟨b, off, e, Nat.lt_of_lt_of_le hb hm.size, fun i o hi j v hj => (World.cell?_of_block (w := w) (hm.block b hb (fun q => q))).trans (hc i o hi j v hj)⟩
theorem COpS.cellsAt {w : World} {p : Option Addr} {l : List COp} (h : COpS w p l) {i : Nat} {o : COp} (hi : l[i]? = some o) : ∃ b off, p = some ⟨b, off, none⟩ ∧ b < w.heap.size ∧
    w.cell? ⟨b, off + i * 4, none⟩ = some (.int .i64 o.what) ∧
    w.cell? ⟨b, off + i * 4 + 1, none⟩ = some (.int .i64 o.off) ∧
    w.cell? ⟨b, off + i * 4 + 2, none⟩ = some (.slice o.bq o.bs.length o.bc) ∧
    w.cell? ⟨b, off + i * 4 + 3, none⟩ = some (.slice o.pq o.ps.length o.pc) := by
  have hlt := (List.getElem?_eq_some_iff.1 hi).1
  obtain ⟨b, off, e, hb, hc⟩ := h.at_ (by omega)
  exact ⟨b, off, e, hb, hc i o hi 0 _ rfl, hc i o hi 1 _ rfl, hc i o hi 2 _ rfl, hc i o hi 3 _ rfl⟩

theorem row_cellsCOp : Tryd.prog.cellsOf 70 = 4 := by kernel_rfl
theorem row_bytesCOp : Tryd.prog.bytesOf 70 = 64 := by kernel_rfl

theorem open_COp {H : Type} {enc : TypeId × Value → H} {W : World} {fuel : Nat} {cs : List Value} {x : DataW H × List MemPlace}
    (h : DataW.trod enc Tryd.prog W 0 (fun _ => true) true fuel 70 cs = some x) (hsz : ∀ n ∈ x.1.weights Tryd.prog 70, n ≤ 140737488355328) :
    ∃ o : COp, cs = o.cells ∧ o.ok W := by
  obtain ⟨xs, n, _, rfl, hl, hlen, hf⟩ := DataW.trod_struct Tryd.underlying70 h
  rw [row_cellsCOp] at hl
  match cs, hl with
  | [c0, c1, c2, c3], _ =>
    match xs, hlen with
    | [y0, y1, y2, y3], _ =>
      have f0 : DataW.trod enc Tryd.prog W 0 (fun _ => true) true n 3 ((([c0, c1, c2, c3] : List Value).drop 0).take (Tryd.prog.cellsOf 3)) = some y0 := hf 0 _ rfl
      rw [show Tryd.prog.cellsOf 3 = 1 by kernel_rfl] at f0
      have f1 : DataW.trod enc Tryd.prog W 0 (fun _ => true) true n 3 ((([c0, c1, c2, c3] : List Value).drop 1).take (Tryd.prog.cellsOf 3)) = some y1 := hf 1 _ rfl
      rw [show Tryd.prog.cellsOf 3 = 1 by kernel_rfl] at f1
      have f2 : DataW.trod enc Tryd.prog W 0 (fun _ => true) true n 22 ((([c0, c1, c2, c3] : List Value).drop 2).take (Tryd.prog.cellsOf 22)) = some y2 := hf 2 _ rfl
      rw [show Tryd.prog.cellsOf 22 = 1 by kernel_rfl] at f2
      have f3 : DataW.trod enc Tryd.prog W 0 (fun _ => true) true n 68 ((([c0, c1, c2, c3] : List Value).drop 3).take (Tryd.prog.cellsOf 68)) = some y3 := hf 3 _ rfl
      rw [show Tryd.prog.cellsOf 68 = 1 by kernel_rfl] at f3
      obtain ⟨n0, e0, _, z0⟩ := DataW.trod_int Tryd.underlying3 f0
      have e0 : [c0] = [Value.int .i64 n0] := e0
      cases e0
      obtain ⟨n1, e1, _, z1⟩ := DataW.trod_int Tryd.underlying3 f1
      have e1 : [c1] = [Value.int .i64 n1] := e1
      cases e1
      obtain ⟨q2, cap2, bs2, e2, hb2⟩ := open_byt f2 (fun n hn => hsz n (by
        simp only [DataW.weights, Tryd.underlying70, List.map_cons, List.map_nil]
        exact DataW.weights_mem_each (j := 2) rfl rfl _ hn))
      have e2 : [c2] = [Value.slice q2 bs2.length cap2] := e2
      cases e2
      obtain ⟨q3, cap3, l3, e3, hc3, hz3, hl3⟩ := open_Pks f3 (fun n hn => hsz n (by
        simp only [DataW.weights, Tryd.underlying70, List.map_cons, List.map_nil]
        exact DataW.weights_mem_each (j := 3) rfl rfl _ hn))
      have e3 : [c3] = [Value.slice q3 l3.length cap3] := e3
      cases e3
      exact ⟨⟨n0, n1, q2, bs2, cap2, q3, l3, cap3⟩, rfl, ⟨z0, z1, hb2, hl3, ⟨hc3, hz3⟩⟩⟩

theorem open_COps {H : Type} {enc : TypeId × Value → H} {W : World} {fuel : Nat} {cs : List Value} {x : DataW H × List MemPlace}
    (h : DataW.trod enc Tryd.prog W 0 (fun _ => true) true fuel 63 cs = some x) (hsz : ∀ n ∈ x.1.weights Tryd.prog 63, n ≤ 140737488355328) :
    ∃ (p : Option Addr) (cap : Nat) (ops : List COp), cs = [.slice p ops.length cap] ∧ ops.length ≤ cap ∧ ops.length * 64 ≤ 140737488355328 ∧ COpS W p ops := by
  rcases Go.Deep.open_slice Tryd.underlying63 h with ⟨hcs, _⟩ | ⟨a, len, cap, m, n, D, Pl, hcs, _, hl, _, hmm, hx, hel⟩
  · exact ⟨none, 0, [], hcs, Nat.le_refl _, by simp, by simp, by simp⟩
  · simp only [if_true] at hmm
    have hd : x.1 = .slice ((List.range len).map D) ((List.range (m - len)).map fun j => D (len + j)) := by rw [hx]
    rw [hd] at hsz
    have hw : (len + (m - len)) * 64 ≤ 140737488355328 := by
      have := hsz ((len + (m - len)) * 64) (by simp [DataW.weights, Tryd.underlying63, row_bytesCOp])
      exact this
    have hin : ∀ i, i < len → ∀ n ∈ (D i).weights Tryd.prog 70, n ≤ 140737488355328 := by
      intro i hi n hn
      refine hsz n ?_
      simp only [DataW.weights, Tryd.underlying63]
      exact List.mem_cons_of_mem _ (List.mem_append_left _ (weights_each _ n hn _ (List.mem_map_of_mem (List.mem_range.2 hi))))
    have each : ∀ i, i < len → ∃ o : COp, o.ok W ∧ ∀ j v, o.cells[j]? = some v → W.cell? (a.add (i * 4 + j)) = some v := by
      intro i hi
      obtain ⟨cs, h1, h2⟩ := hel i (by omega)
      obtain ⟨o, rfl, hok⟩ := open_COp h2 (hin i hi)
      obtain ⟨_, hlen, hc⟩ := World.cells?_some h1
      rw [row_cellsCOp] at hc hlen
      refine ⟨o, hok, fun j v hj => ?_⟩
      have hjl : j < 4 := by have := (List.getElem?_eq_some_iff.1 hj).1; rw [hlen] at this; exact this
      rw [← Go.Deep.add_add, hc j hjl, hj]
    obtain ⟨f, hfo⟩ : ∃ f : Nat → COp, ∀ i, i < len → (f i).ok W ∧ ∀ j v, (f i).cells[j]? = some v → W.cell? (a.add (i * 4 + j)) = some v := by
      refine ⟨fun i => if h : i < len then (each i h).choose else ⟨0, 0, none, [], 0, none, [], 0⟩, fun i hi => ?_⟩
      simp only [hi, dif_pos]
      exact (each i hi).choose_spec
    have hle : ((List.range len).map f).length = len := by simp
    refine ⟨some a, cap, (List.range len).map f, by rw [hle]; exact hcs, by rw [hle]; exact hl, by rw [hle]; omega, ?_, fun h0 => ?_⟩
    · intro o ho
      obtain ⟨i, hi, rfl⟩ := List.mem_map.1 ho
      exact (hfo i (List.mem_range.1 hi)).1
    · rw [hle] at h0
      have hc0 := (hfo 0 h0).2 0 _ rfl
      obtain ⟨b, off, spot⟩ := a
      have hspot : spot = none := by simpa [Addr.add] using World.cell?_spot hc0
      subst hspot
      refine ⟨b, off, rfl, ?_, fun i o hi j v hj => ?_⟩
      · have := World.block_lt_of_cell? W _ hc0
        simpa [Addr.add] using this
      · have hil := (List.getElem?_eq_some_iff.1 hi).1
        rw [hle] at hil
        have ho : o = f i := by
          rw [List.getElem?_map, List.getElem?_range hil] at hi
          exact (Option.some.inj hi).symm
        subst ho
        have := (hfo i hil).2 j v hj
        rwa [Addr.add_lit] at this

theorem open_COps_arg {H : Type} {enc : TypeId × Value → H} {W : World} {base : Nat} {v : Value} {d : DataW H} {ps : List MemPlace} (_hv : Value.okWide Tryd.prog W .any base 63 v)
    (h : DataW.Trod enc Tryd.prog W 0 (fun _ => true) true 63 v d ps) (hsz : ∀ n ∈ d.weights Tryd.prog 63, n ≤ 140737488355328) :
    ∃ (p : Option Addr) (cap : Nat) (ops : List COp), v = .slice p ops.length cap ∧ ops.length ≤ cap ∧ ops.length * 64 ≤ 140737488355328 ∧ COpS W p ops := by
  obtain ⟨a0, l0, c0, rfl⟩ := okWide_slice Tryd.underlying63 _hv
  obtain ⟨fuel, hf⟩ := h
  obtain ⟨p, cap, ops, e, r⟩ := open_COps hf hsz
  have e : [Value.slice a0 l0 c0] = [Value.slice p ops.length cap] := e
  exact ⟨p, cap, ops, (List.cons.inj e).1, r⟩

end Go.Proofs.YtmdeljacbekbpaaDoor

