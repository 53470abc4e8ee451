/- Slices of tenementlaw02.Op that came in. (Printed by wip/gen_open.py.) -/
import Derived.Test.YthfkpbfapkpnfabOpenByt
namespace Go.Proofs.Ythfkpbfapkpnfab
open Go.ChangeShapes Go.WideShapes Go.ChangeAt Go.RowKit
set_option maxRecDepth 100000

structure VOp where
  what : Int
  mfn : Int
  off : Int
  n : Int
  bq : Option Addr
  bs : List Int
  bc : Nat

def VOp.cells (o : VOp) : List Value := [.int .i64 o.what, .int .i64 o.mfn, .int .i64 o.off, .int .i64 o.n, .slice o.bq o.bs.length o.bc]
structure VOp.ok (o : VOp) (w : World) : Prop where
  w_what : (Lit.int .i64 o.what).wf = true
  w_mfn : (Lit.int .i64 o.mfn).wf = true
  w_off : (Lit.int .i64 o.off).wf = true
  w_n : (Lit.int .i64 o.n).wf = true
  b : Byt w o.bq o.bs o.bc
structure VOpS (w : World) (p : Option Addr) (l : List VOp) : Prop where
  ok : ∀ o ∈ l, o.ok w
  at_ : 0 < l.length → ∃ b off, p = some ⟨b, off, none⟩ ∧ b < w.heap.size ∧ ∀ i o, l[i]? = some o → ∀ j v, o.cells[j]? = some v → w.cell? ⟨b, off + (i * 5 + j), none⟩ = some v

theorem VOp.ok.kept {o : VOp} {w w' : World} (h : o.ok w) (hm : Mod No w w') : o.ok w' := ⟨h.w_what, h.w_mfn, h.w_off, h.w_n, h.b.kept hm⟩
theorem VOpS.kept {w w' : World} {p : Option Addr} {l : List VOp} (h : VOpS w p l) (hm : Mod No w w') : VOpS w' p l := by
  refine ⟨fun o ho => (h.ok o ho).kept hm, fun h0 => ?_⟩
  obtain ⟨b, off, e, hb, hc⟩ := h.at_ h0
  exact ⟨b, off, e, Nat.lt_of_lt_of_le hb hm.size, fun i o hi j v hj => (World.cell?_of_block (w := w) (hm.block b hb (fun q => q))).trans (hc i o hi j v hj)⟩
theorem VOpS.cellsAt {w : World} {p : Option Addr} {l : List VOp} (h : VOpS w p l) {i : Nat} {o : VOp} (hi : l[i]? = some o) : ∃ b off, p = some ⟨b, off, none⟩ ∧ b < w.heap.size ∧
    w.cell? ⟨b, off + i * 5, none⟩ = some (.int .i64 o.what) ∧
    w.cell? ⟨b, off + i * 5 + 1, none⟩ = some (.int .i64 o.mfn) ∧
    w.cell? ⟨b, off + i * 5 + 2, none⟩ = some (.int .i64 o.off) ∧
    w.cell? ⟨b, off + i * 5 + 3, none⟩ = some (.int .i64 o.n) ∧
    w.cell? ⟨b, off + i * 5 + 4, none⟩ = some (.slice o.bq o.bs.length o.bc) := by
  have hlt := (List.getElem?_eq_some_iff.1 hi).1
  obtain ⟨b, off, e, hb, hc⟩ := h.at_ (by omega)
  exact ⟨b, off, e, hb, hc i o hi 0 _ rfl, hc i o hi 1 _ rfl, hc i o hi 2 _ rfl, hc i o hi 3 _ rfl, hc i o hi 4 _ rfl⟩

theorem row_cellsVOp : Try.prog.cellsOf 79 = 5 := by kernel_rfl
theorem row_bytesVOp : Try.prog.bytesOf 79 = 56 := by kernel_rfl

theorem open_VOp {H : Type} {enc : TypeId × Value → H} {W : World} {fuel : Nat} {cs : List Value} {x : DataW H × List MemPlace}
    (h : DataW.trod enc Try.prog W 0 (fun _ => true) true fuel 79 cs = some x) (hsz : ∀ n ∈ x.1.weights Try.prog 79, n ≤ 140737488355328) :
    ∃ o : VOp, cs = o.cells ∧ o.ok W := by
  obtain ⟨xs, n, _, rfl, hl, hlen, hf⟩ := DataW.trod_struct Try.underlying79 h
  rw [row_cellsVOp] at hl
  match cs, hl with
  | [c0, c1, c2, c3, c4], _ =>
    match xs, hlen with
    | [y0, y1, y2, y3, y4], _ =>
      have f0 : DataW.trod enc Try.prog W 0 (fun _ => true) true n 3 ((([c0, c1, c2, c3, c4] : List Value).drop 0).take (Try.prog.cellsOf 3)) = some y0 := hf 0 _ rfl
      rw [show Try.prog.cellsOf 3 = 1 by kernel_rfl] at f0
      have f1 : DataW.trod enc Try.prog W 0 (fun _ => true) true n 3 ((([c0, c1, c2, c3, c4] : List Value).drop 1).take (Try.prog.cellsOf 3)) = some y1 := hf 1 _ rfl
      rw [show Try.prog.cellsOf 3 = 1 by kernel_rfl] at f1
      have f2 : DataW.trod enc Try.prog W 0 (fun _ => true) true n 3 ((([c0, c1, c2, c3, c4] : List Value).drop 2).take (Try.prog.cellsOf 3)) = some y2 := hf 2 _ rfl
      rw [show Try.prog.cellsOf 3 = 1 by kernel_rfl] at f2
      have f3 : DataW.trod enc Try.prog W 0 (fun _ => true) true n 3 ((([c0, c1, c2, c3, c4] : List Value).drop 3).take (Try.prog.cellsOf 3)) = some y3 := hf 3 _ rfl
      rw [show Try.prog.cellsOf 3 = 1 by kernel_rfl] at f3
      have f4 : DataW.trod enc Try.prog W 0 (fun _ => true) true n 33 ((([c0, c1, c2, c3, c4] : List Value).drop 4).take (Try.prog.cellsOf 33)) = some y4 := hf 4 _ rfl
      rw [show Try.prog.cellsOf 33 = 1 by kernel_rfl] at f4
      obtain ⟨n0, e0, _, z0⟩ := DataW.trod_int Try.underlying3 f0
      have e0 : [c0] = [Value.int .i64 n0] := e0
      cases e0
      obtain ⟨n1, e1, _, z1⟩ := DataW.trod_int Try.underlying3 f1
      have e1 : [c1] = [Value.int .i64 n1] := e1
      cases e1
      obtain ⟨n2, e2, _, z2⟩ := DataW.trod_int Try.underlying3 f2
      have e2 : [c2] = [Value.int .i64 n2] := e2
      cases e2
      obtain ⟨n3, e3, _, z3⟩ := DataW.trod_int Try.underlying3 f3
      have e3 : [c3] = [Value.int .i64 n3] := e3
      cases e3
      obtain ⟨q4, cap4, bs4, e4, hb4⟩ := open_byt f4 (fun n hn => hsz n (by
        simp only [DataW.weights, Try.underlying79, List.map_cons, List.map_nil]
        exact DataW.weights_mem_each (j := 4) rfl rfl _ hn))
      have e4 : [c4] = [Value.slice q4 bs4.length cap4] := e4
      cases e4
      exact ⟨⟨n0, n1, n2, n3, q4, bs4, cap4⟩, rfl, ⟨z0, z1, z2, z3, hb4⟩⟩

theorem open_VOps {H : Type} {enc : TypeId × Value → H} {W : World} {fuel : Nat} {cs : List Value} {x : DataW H × List MemPlace}
    (h : DataW.trod enc Try.prog W 0 (fun _ => true) true fuel 75 cs = some x) (hsz : ∀ n ∈ x.1.weights Try.prog 75, n ≤ 140737488355328) :
    ∃ (p : Option Addr) (cap : Nat) (ops : List VOp), cs = [.slice p ops.length cap] ∧ ops.length ≤ cap ∧ ops.length * 56 ≤ 140737488355328 ∧ VOpS W p ops := by
  rcases Go.Deep.open_slice Try.underlying75 h with ⟨hcs, _⟩ | ⟨a, len, cap, m, n, D, Pl, hcs, _, hl, _, hmm, hx, hel⟩
  · exact ⟨none, 0, [], hcs, Nat.le_refl _, by simp, by simp, by simp⟩
  · simp only [if_true] at hmm
    have hd : x.1 = .slice ((List.range len).map D) ((List.range (m - len)).map fun j => D (len + j)) := by rw [hx]
    rw [hd] at hsz
    have hw : (len + (m - len)) * 56 ≤ 140737488355328 := by
      have := hsz ((len + (m - len)) * 56) (by simp [DataW.weights, Try.underlying75, row_bytesVOp])
      exact this
    have hin : ∀ i, i < len → ∀ n ∈ (D i).weights Try.prog 79, n ≤ 140737488355328 := by
      intro i hi n hn
      refine hsz n ?_
      simp only [DataW.weights, Try.underlying75]
      exact List.mem_cons_of_mem _ (List.mem_append_left _ (weights_each _ n hn _ (List.mem_map_of_mem (List.mem_range.2 hi))))
    have each : ∀ i, i < len → ∃ o : VOp, o.ok W ∧ ∀ j v, o.cells[j]? = some v → W.cell? (a.add (i * 5 + j)) = some v := by
      intro i hi
      obtain ⟨cs, h1, h2⟩ := hel i (by omega)
      obtain ⟨o, rfl, hok⟩ := open_VOp h2 (hin i hi)
      obtain ⟨_, hlen, hc⟩ := World.cells?_some h1
      rw [row_cellsVOp] at hc hlen
      refine ⟨o, hok, fun j v hj => ?_⟩
      have hjl : j < 5 := by have := (List.getElem?_eq_some_iff.1 hj).1; rw [hlen] at this; exact this
      rw [← Go.Deep.add_add, hc j hjl, hj]
    obtain ⟨f, hfo⟩ : ∃ f : Nat → VOp, ∀ i, i < len → (f i).ok W ∧ ∀ j v, (f i).cells[j]? = some v → W.cell? (a.add (i * 5 + j)) = some v := by
      refine ⟨fun i => if h : i < len then (each i h).choose else ⟨0, 0, 0, 0, none, [], 0⟩, fun i hi => ?_⟩
      simp only [hi, dif_pos]
      exact (each i hi).choose_spec
    have hle : ((List.range len).map f).length = len := by simp
    refine ⟨some a, cap, (List.range len).map f, by rw [hle]; exact hcs, by rw [hle]; exact hl, by rw [hle]; omega, ?_, fun h0 => ?_⟩
    · intro o ho
      obtain ⟨i, hi, rfl⟩ := List.mem_map.1 ho
      exact (hfo i (List.mem_range.1 hi)).1
    · rw [hle] at h0
      have hc0 := (hfo 0 h0).2 0 _ rfl
      obtain ⟨b, off, spot⟩ := a
      have hspot : spot = none := by simpa [Addr.add] using World.cell?_spot hc0
      subst hspot
      refine ⟨b, off, rfl, ?_, fun i o hi j v hj => ?_⟩
      · have := World.block_lt_of_cell? W _ hc0
        simpa [Addr.add] using this
      · have hil := (List.getElem?_eq_some_iff.1 hi).1
        rw [hle] at hil
        have ho : o = f i := by
          rw [List.getElem?_map, List.getElem?_range hil] at hi
          exact (Option.some.inj hi).symm
        subst ho
        have := (hfo i hil).2 j v hj
        rwa [Addr.add_lit] at this

theorem open_VOps_arg {H : Type} {enc : TypeId × Value → H} {W : World} {base : Nat} {v : Value} {d : DataW H} {ps : List MemPlace} (_hv : Value.okWide Try.prog W .any base 75 v)
    (h : DataW.Trod enc Try.prog W 0 (fun _ => true) true 75 v d ps) (hsz : ∀ n ∈ d.weights Try.prog 75, n ≤ 140737488355328) :
    ∃ (p : Option Addr) (cap : Nat) (ops : List VOp), v = .slice p ops.length cap ∧ ops.length ≤ cap ∧ ops.length * 56 ≤ 140737488355328 ∧ VOpS W p ops := by
  obtain ⟨a0, l0, c0, rfl⟩ := okWide_slice Try.underlying75 _hv
  obtain ⟨fuel, hf⟩ := h
  obtain ⟨p, cap, ops, e, r⟩ := open_VOps hf hsz
  have e : [Value.slice a0 l0 c0] = [Value.slice p ops.length cap] := e
  exact ⟨p, cap, ops, (List.cons.inj e).1, r⟩

end Go.Proofs.Ythfkpbfapkpnfab

