/- A script of calls that came in: its cells, its bytes. -/
import Derived.Test.YthfkpbfapkpnfabPlay3
import Derived.Test.YthfkpbfapkpnfabRowKit
import Derived.Deep.Slices
namespace Go.Proofs.Ythfkpbfapkpnfab
open Go.ChangeShapes Go.WideShapes Go.ChangeAt Go.RowKit
set_option maxRecDepth 100000

structure OpD where
  what : Int
  a : Int
  b : Int
  c : Int
  q : Option Addr
  bs : List Int
  cap : Nat

def OpD.cells (o : OpD) : List Value := [.int .i64 o.what, .int .i64 o.a, .int .i64 o.b, .int .i64 o.c, .slice o.q o.bs.length o.cap]

/-- The bytes of one call lie in w. -/
structure OpD.ok (o : OpD) (w : World) : Prop where
  range : ∀ x ∈ o.bs, 0 ≤ x ∧ x ≤ 255
  cap : o.bs.length ≤ o.cap
  len : o.bs.length ≤ 140737488355328
  nil : o.q = none → o.bs = [] ∧ o.cap = 0
  at_ : 0 < o.bs.length → ∃ b off, o.q = some ⟨b, off, none⟩ ∧ b < w.heap.size ∧ ∀ j x, o.bs[j]? = some x → w.cell? ⟨b, off + j, none⟩ = some (.int .u8 x)

structure Scr (w : World) (p : Option Addr) (ops : List OpD) : Prop where
  ok : ∀ o ∈ ops, o.ok w
  at_ : 0 < ops.length → ∃ b off, p = some ⟨b, off, none⟩ ∧ b < w.heap.size ∧ ∀ i o, ops[i]? = some o → ∀ j v, o.cells[j]? = some v → w.cell? ⟨b, off + (i * 5 + j), none⟩ = some v

theorem OpD.ok.kept {o : OpD} {w w' : World} (h : o.ok w) (hm : Mod No w w') : o.ok w' := by
  refine ⟨h.range, h.cap, h.len, h.nil, fun h0 => ?_⟩
  obtain ⟨b, off, e, hb, hc⟩ := h.at_ h0
  exact ⟨b, off, e, Nat.lt_of_lt_of_le hb hm.size, fun j x hj => (World.cell?_of_block (w := w) (hm.block b hb (fun q => q))).trans (hc j x hj)⟩
theorem Scr.kept {w w' : World} {p : Option Addr} {ops : List OpD} (h : Scr w p ops) (hm : Mod No w w') : Scr w' p ops := by
  refine ⟨fun o ho => (h.ok o ho).kept hm, fun h0 => ?_⟩
  obtain ⟨b, off, e, hb, hc⟩ := h.at_ h0
  exact ⟨b, off, e, Nat.lt_of_lt_of_le hb hm.size, fun i o hi j v hj => (World.cell?_of_block (w := w) (hm.block b hb (fun q => q))).trans (hc i o hi j v hj)⟩

/-- As what a call hands in: both machines lie behind the input. -/
theorem OpD.ok.bts {o : OpD} {w0 w : World} (h : o.ok w0) (hm : Mod No w0 w) {F : Nat} {K : RfK} (hF : w0.heap.size ≤ F) (hK : ∀ k, K.has k → w0.heap.size ≤ k) : BtsQ w F K o.q o.cap o.bs := by
  cases hq : o.q with
  | none => obtain ⟨a, b⟩ := h.nil hq; exact .inl ⟨rfl, a, b⟩
  | some ad =>
    refine .inr ⟨ad, rfl, h.range, h.cap, fun h0 => ?_⟩
    obtain ⟨b, off, e, hb, hc⟩ := h.at_ h0
    refine ⟨b, off, by rw [← hq, e], by omega, fun q => by have := hK b q; omega, fun j x hj => (World.cell?_of_block (w := w0) (hm.block b hb (fun q => q))).trans (hc j x hj)⟩

theorem row_cellsBytes : Try.prog.cellsOf 33 = 1 := by kernel_rfl
theorem row_cellsOp : Try.prog.cellsOf 54 = 5 := by kernel_rfl
theorem row_bytesOp : Try.prog.bytesOf 54 = 56 := by kernel_rfl
theorem row_bytesU8 : Try.prog.bytesOf 5 = 1 := by kernel_rfl

/-- A slice of bytes that lies in a cell. -/
theorem open_bytes_cell {H : Type} {enc : TypeId × Value → H} {W : World} {fuel : Nat} {cs : List Value} {x : DataW H × List MemPlace}
    (h : DataW.trod enc Try.prog W 0 (fun _ => true) true fuel 33 cs = some x) :
    ∃ q len cap, ∃ bs : List Int, cs = [.slice q len cap] ∧ bs.length = len ∧ len ≤ cap ∧ (∀ b ∈ bs, 0 ≤ b ∧ b ≤ 255) ∧ (q = none → bs = [] ∧ cap = 0) ∧ (x.1 = .nil ∧ len = 0 ∨ ∃ es sp, x.1 = .slice es sp ∧ es.length = len) ∧
      (0 < len → ∃ b o, q = some ⟨b, o, none⟩ ∧ ∀ j y, bs[j]? = some y → W.cell? ⟨b, o + j, none⟩ = some (.int .u8 y)) := by
  rcases open_ints Try.underlying33 Try.underlying5 row_cellsU8 h with ⟨hcs, hx⟩ | ⟨a, len, cap, zs, hcs, _, hl, hm, hz, hx, hcell, hwz⟩
  · exact ⟨none, 0, 0, [], hcs, rfl, Nat.le_refl _, by simp, fun _ => ⟨rfl, rfl⟩, .inl ⟨by rw [hx], rfl⟩, fun h => absurd h (by omega)⟩
  · simp only [if_true] at hz
    have hlen : (zs.take len).length = len := by rw [List.length_take]; omega
    refine ⟨some a, len, cap, zs.take len, hcs, hlen, hl, fun b hb => bounds_u8 (hwz b (List.mem_of_mem_take hb)), (fun q => by cases q), .inr ⟨_, _, by rw [hx], by simp [lits]; omega⟩, fun h0 => ?_⟩
    obtain ⟨b, off, rfl, hc⟩ := ints_at hcell (by omega)
    refine ⟨b, off, rfl, fun j y hj => ?_⟩
    have hjl : j < (zs.take len).length := (List.getElem?_eq_some_iff.1 hj).1
    rw [hlen] at hjl
    rw [List.getElem?_take_of_lt hjl] at hj
    rw [hc j (by omega), List.getD_eq_getElem?_getD, hj]; rfl

/-- One call's cells, opened. -/
theorem open_op {H : Type} {enc : TypeId × Value → H} {W : World} {fuel : Nat} {cs : List Value} {x : DataW H × List MemPlace}
    (h : DataW.trod enc Try.prog W 0 (fun _ => true) true fuel 54 cs = some x) (hsz : ∀ n ∈ x.1.weights Try.prog 54, n ≤ 140737488355328) :
    ∃ o : OpD, cs = o.cells ∧ o.ok W := by
  obtain ⟨xs, n, _, rfl, hl, hlen, hf⟩ := DataW.trod_struct Try.underlying54 h
  rw [row_cellsOp] at hl
  match cs, hl with
  | [c0, c1, c2, c3, c4], _ =>
    match xs, hlen with
    | [y0, y1, y2, y3, y4], _ =>
      have f0 : DataW.trod enc Try.prog W 0 (fun _ => true) true n 3 ((([c0, c1, c2, c3, c4] : List Value).drop 0).take (Try.prog.cellsOf 3)) = some y0 := hf 0 _ rfl
      rw [row_cellsInt] at f0
      have f1 : DataW.trod enc Try.prog W 0 (fun _ => true) true n 3 ((([c0, c1, c2, c3, c4] : List Value).drop 1).take (Try.prog.cellsOf 3)) = some y1 := hf 1 _ rfl
      rw [row_cellsInt] at f1
      have f2 : DataW.trod enc Try.prog W 0 (fun _ => true) true n 3 ((([c0, c1, c2, c3, c4] : List Value).drop 2).take (Try.prog.cellsOf 3)) = some y2 := hf 2 _ rfl
      rw [row_cellsInt] at f2
      have f3 : DataW.trod enc Try.prog W 0 (fun _ => true) true n 3 ((([c0, c1, c2, c3, c4] : List Value).drop 3).take (Try.prog.cellsOf 3)) = some y3 := hf 3 _ rfl
      rw [row_cellsInt] at f3
      have f4 : DataW.trod enc Try.prog W 0 (fun _ => true) true n 33 ((([c0, c1, c2, c3, c4] : List Value).drop 4).take (Try.prog.cellsOf 33)) = some y4 := hf 4 _ rfl
      rw [row_cellsBytes] at f4
      obtain ⟨n0, e0, _, _⟩ := DataW.trod_int Try.underlying3 f0
      have e0 : [c0] = [Value.int .i64 n0] := e0
      obtain ⟨n1, e1, _, _⟩ := DataW.trod_int Try.underlying3 f1
      have e1 : [c1] = [Value.int .i64 n1] := e1
      obtain ⟨n2, e2, _, _⟩ := DataW.trod_int Try.underlying3 f2
      have e2 : [c2] = [Value.int .i64 n2] := e2
      obtain ⟨n3, e3, _, _⟩ := DataW.trod_int Try.underlying3 f3
      have e3 : [c3] = [Value.int .i64 n3] := e3
      obtain ⟨q, len, cap, bs, e4, hbl, hcap, hr, hnil, hd, hat⟩ := open_bytes_cell f4
      have e4 : [c4] = [Value.slice q len cap] := e4
      cases e0; cases e1; cases e2; cases e3; cases e4
      refine ⟨⟨n0, n1, n2, n3, q, bs, cap⟩, by rw [← hbl]; rfl, hr, by rw [hbl]; exact hcap, ?_, hnil, fun h0 => ?_⟩
      · show bs.length ≤ _
        rw [hbl]
        rcases hd with ⟨_, h0⟩ | ⟨es, sp, hd, hes⟩
        · omega
        · have := hsz ((es.length + sp.length) * Try.prog.bytesOf 5) (by
            simp only [DataW.weights, Try.underlying54, List.map_cons, List.map_nil]
            refine DataW.weights_mem_each (j := 4) rfl rfl _ ?_
            show _ ∈ DataW.weights Try.prog 33 y4.1
            rw [hd]
            simp [DataW.weights, Try.underlying33])
          rw [row_bytesU8] at this
          omega
      · obtain ⟨b, off, e, hc⟩ := hat (by rw [← hbl]; exact h0)
        refine ⟨b, off, e, ?_, hc⟩
        obtain ⟨y, hy⟩ : ∃ y, bs[0]? = some y := ⟨_, List.getElem?_eq_getElem h0⟩
        exact World.block_lt_of_cell? W _ (hc 0 y hy)

/-- A script, opened. -/
theorem open_script {H : Type} {enc : TypeId × Value → H} {W : World} {base : Nat} {v : Value} {d : DataW H} {ps : List MemPlace} (hv : Value.okWide Try.prog W .any base 45 v)
    (h : DataW.Trod enc Try.prog W 0 (fun _ => true) true 45 v d ps) (hsz : ∀ n ∈ d.weights Try.prog 45, n ≤ 140737488355328) :
    ∃ (p : Option Addr) (cap : Nat) (ops : List OpD), v = .slice p ops.length cap ∧ ops.length ≤ cap ∧ ops.length * 56 ≤ 140737488355328 ∧ Scr W p ops := by
  obtain ⟨a0, len, cap, rfl⟩ := okWide_slice Try.underlying45 hv
  obtain ⟨fuel, hf⟩ := h
  rcases Go.Deep.open_slice Try.underlying45 hf with ⟨hcs, _⟩ | ⟨a, len', cap', m, n, D, Pl, hcs, _, hl, _, hmm, hx, hel⟩
  · simp only [Value.cells, List.cons.injEq, Value.slice.injEq, and_true] at hcs
    obtain ⟨rfl, rfl, rfl⟩ := hcs
    exact ⟨none, 0, [], rfl, Nat.le_refl _, by simp, by simp, by simp⟩
  · simp only [Value.cells, List.cons.injEq, Value.slice.injEq, and_true] at hcs
    obtain ⟨rfl, rfl, rfl⟩ := hcs
    simp only [if_true] at hmm
    have hd : d = .slice ((List.range len).map D) ((List.range (m - len)).map fun j => D (len + j)) := (Prod.mk.inj hx).1
    subst hd
    have hw : (len + (m - len)) * 56 ≤ 140737488355328 := by
      have := hsz ((len + (m - len)) * 56) (by simp [DataW.weights, Try.underlying45, row_bytesOp])
      exact this
    have hin : ∀ i, i < len → ∀ n ∈ (D i).weights Try.prog 54, n ≤ 140737488355328 := by
      intro i hi n hn
      refine hsz n ?_
      simp only [DataW.weights, Try.underlying45]
      refine List.mem_cons_of_mem _ (List.mem_append_left _ ?_)
      have : ∀ (l : List (DataW H)), D i ∈ l → n ∈ DataW.weightsAll Try.prog 54 l := by
        intro l
        induction l with
        | nil => intro h; cases h
        | cons x l ih =>
          intro h
          rcases List.mem_cons.1 h with h | h
          · rw [DataW.weightsAll, ← h]; exact List.mem_append_left _ hn
          · rw [DataW.weightsAll]; exact List.mem_append_right _ (ih h)
      exact this _ (List.mem_map_of_mem (List.mem_range.2 hi))
    have each : ∀ i, i < len → ∃ o : OpD, o.ok W ∧ ∀ j v, o.cells[j]? = some v → W.cell? (a.add (i * 5 + j)) = some v := by
      intro i hi
      obtain ⟨cs, h1, h2⟩ := hel i (by omega)
      obtain ⟨o, rfl, hok⟩ := open_op h2 (hin i hi)
      obtain ⟨_, hlen, hc⟩ := World.cells?_some h1
      rw [row_cellsOp] at hc hlen
      refine ⟨o, hok, fun j v hj => ?_⟩
      have hjl : j < 5 := by have := (List.getElem?_eq_some_iff.1 hj).1; rw [hlen] at this; exact this
      rw [← Go.Deep.add_add, hc j hjl, hj]
    obtain ⟨f, hfo⟩ : ∃ f : Nat → OpD, ∀ i, i < len → (f i).ok W ∧ ∀ j v, (f i).cells[j]? = some v → W.cell? (a.add (i * 5 + j)) = some v := by
      refine ⟨fun i => if h : i < len then (each i h).choose else ⟨0, 0, 0, 0, none, [], 0⟩, fun i hi => ?_⟩
      simp only [hi, dif_pos]
      exact (each i hi).choose_spec
    have hle : ((List.range len).map f).length = len := by simp
    refine ⟨some a, cap, (List.range len).map f, by rw [hle], by rw [hle]; exact hl, by rw [hle]; omega, ?_, fun h0 => ?_⟩
    · intro o ho
      obtain ⟨i, hi, rfl⟩ := List.mem_map.1 ho
      exact (hfo i (List.mem_range.1 hi)).1
    · rw [hle] at h0
      have hc0 := (hfo 0 h0).2 0 _ rfl
      obtain ⟨b, off, spot⟩ := a
      have hspot : spot = none := by simpa [Addr.add] using World.cell?_spot hc0
      subst hspot
      refine ⟨b, off, rfl, ?_, fun i o hi j v hj => ?_⟩
      · have := World.block_lt_of_cell? W _ hc0
        simpa [Addr.add] using this
      · have hil := (List.getElem?_eq_some_iff.1 hi).1
        rw [hle] at hil
        have ho : o = f i := by
          rw [List.getElem?_map, List.getElem?_range hil] at hi
          exact (Option.some.inj hi).symm
        subst ho
        have := (hfo i hil).2 j v hj
        rwa [Addr.add_lit] at this

end Go.Proofs.Ythfkpbfapkpnfab
