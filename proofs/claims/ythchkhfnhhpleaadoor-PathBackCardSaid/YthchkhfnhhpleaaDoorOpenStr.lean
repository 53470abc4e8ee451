/- Slices of strings that came in. -/
import Derived.Test.YthchkhfnhhpleaaDoorOpenBytS
import Derived.Test.YthchkhfnhhpleaaDoorPathSplit
import Derived.ChangeArms
namespace Go.Proofs.YthchkhfnhhpleaaDoor
open Go.ChangeShapes Go.WideShapes Go.ChangeAt Go.RowKit
set_option maxRecDepth 100000

structure TxS (w : World) (p : Option Addr) (l : List (List UInt8)) : Prop where
  ok : ∀ x ∈ l, x.length ≤ 140737488355328
  at_ : 0 < l.length → ∃ b off, p = some ⟨b, off, none⟩ ∧ b < w.heap.size ∧ ∀ i x, l[i]? = some x → w.cell? ⟨b, off + i, none⟩ = some (.string (txt x))

theorem TxS.kept {w w' : World} {p : Option Addr} {l : List (List UInt8)} (h : TxS w p l) (hm : Mod No w w') : TxS w' p l := by
  refine ⟨h.ok, fun h0 => ?_⟩
  obtain ⟨b, off, e, hb, hc⟩ := h.at_ h0
  exact ⟨b, off, e, Nat.lt_of_lt_of_le hb hm.size, fun i x hi => (World.cell?_of_block (w := w) (hm.block b hb (fun q => q))).trans (hc i x hi)⟩
theorem TxS.cellAt {w : World} {p : Option Addr} {l : List (List UInt8)} (h : TxS w p l) {i : Nat} {x : List UInt8} (hi : l[i]? = some x) : ∃ b off, p = some ⟨b, off, none⟩ ∧ b < w.heap.size ∧ w.cell? ⟨b, off + i, none⟩ = some (.string (txt x)) := by
  have hlt := (List.getElem?_eq_some_iff.1 hi).1
  obtain ⟨b, off, e, hb, hc⟩ := h.at_ (by omega)
  exact ⟨b, off, e, hb, hc i x hi⟩

theorem row_cellsStr : Tryd.prog.cellsOf 9 = 1 := by kernel_rfl
theorem row_bytesStr : Tryd.prog.bytesOf 9 = 16 := by kernel_rfl

theorem open_Strs {H : Type} {enc : TypeId × Value → H} {W : World} {fuel : Nat} {cs : List Value} {x : DataW H × List MemPlace}
    (h : DataW.trod enc Tryd.prog W 0 (fun _ => true) true fuel 24 cs = some x) (hsz : ∀ n ∈ x.1.weights Tryd.prog 24, n ≤ 140737488355328) :
    ∃ (p : Option Addr) (cap : Nat) (ops : List (List UInt8)), cs = [.slice p ops.length cap] ∧ (ops.length ≤ cap ∧ (p = none → cap = 0)) ∧ ops.length * 16 ≤ 140737488355328 ∧ TxS W p ops := by
  rcases Go.Deep.open_slice Tryd.underlying24 h with ⟨hcs, _⟩ | ⟨a, len, cap, m, n, D, Pl, hcs, _, hl, _, hmm, hx, hel⟩
  · exact ⟨none, 0, [], hcs, ⟨Nat.le_refl _, fun _ => rfl⟩, by simp, by simp, by simp⟩
  · simp only [if_true] at hmm
    have hd : x.1 = .slice ((List.range len).map D) ((List.range (m - len)).map fun j => D (len + j)) := by rw [hx]
    rw [hd] at hsz
    have hw : (len + (m - len)) * 16 ≤ 140737488355328 := by
      have := hsz ((len + (m - len)) * 16) (by simp [DataW.weights, Tryd.underlying24, row_bytesStr])
      exact this
    have hin : ∀ i, i < len → ∀ n ∈ (D i).weights Tryd.prog 9, n ≤ 140737488355328 := by
      intro i hi n hn
      refine hsz n ?_
      simp only [DataW.weights, Tryd.underlying24]
      exact List.mem_cons_of_mem _ (List.mem_append_left _ (weights_each _ n hn _ (List.mem_map_of_mem (List.mem_range.2 hi))))
    have each : ∀ i, i < len → ∃ o : List UInt8, o.length ≤ 140737488355328 ∧ W.cell? (a.add i) = some (.string (txt o)) := by
      intro i hi
      obtain ⟨cs, h1, h2⟩ := hel i (by omega)
      rw [row_cellsStr, Nat.mul_one] at h1
      obtain ⟨s, rfl, hs, _⟩ := DataW.trod_string Tryd.underlying9 h2
      refine ⟨s.data.toList, ?_, ?_⟩
      · have hDi : D i = .lit (.string s.data.toList) := congrArg Prod.fst hs
        have := hin i hi s.data.toList.length (by rw [hDi]; simp [DataW.weights])
        exact this
      · rw [txt_of]
        exact cell_of_cells?_one h1
    obtain ⟨f, hfo⟩ : ∃ f : Nat → List UInt8, ∀ i, i < len → (f i).length ≤ 140737488355328 ∧ W.cell? (a.add i) = some (.string (txt (f i))) := by
      refine ⟨fun i => if h : i < len then (each i h).choose else [], fun i hi => ?_⟩
      simp only [hi, dif_pos]
      exact (each i hi).choose_spec
    have hle : ((List.range len).map f).length = len := by simp
    refine ⟨some a, cap, (List.range len).map f, by rw [hle]; exact hcs, ⟨by rw [hle]; exact hl, fun e => by cases e⟩, by rw [hle]; omega, ?_, fun h0 => ?_⟩
    · intro o ho
      obtain ⟨i, hi, rfl⟩ := List.mem_map.1 ho
      exact (hfo i (List.mem_range.1 hi)).1
    · rw [hle] at h0
      have hc0 := (hfo 0 h0).2
      obtain ⟨b, off, spot⟩ := a
      have hspot : spot = none := by simpa [Addr.add] using World.cell?_spot hc0
      subst hspot
      refine ⟨b, off, rfl, ?_, fun i o hi => ?_⟩
      · have := World.block_lt_of_cell? W _ hc0
        simpa [Addr.add] using this
      · have hil := (List.getElem?_eq_some_iff.1 hi).1
        rw [hle] at hil
        have ho : o = f i := by
          rw [List.getElem?_map, List.getElem?_range hil] at hi
          exact (Option.some.inj hi).symm
        subst ho
        have := (hfo i hil).2
        rwa [Addr.add_lit] at this

theorem open_Strs_arg {H : Type} {enc : TypeId × Value → H} {W : World} {base : Nat} {v : Value} {d : DataW H} {ps : List MemPlace} (_hv : Value.okWide Tryd.prog W .any base 24 v)
    (h : DataW.Trod enc Tryd.prog W 0 (fun _ => true) true 24 v d ps) (hsz : ∀ n ∈ d.weights Tryd.prog 24, n ≤ 140737488355328) :
    ∃ (p : Option Addr) (cap : Nat) (ops : List (List UInt8)), v = .slice p ops.length cap ∧ (ops.length ≤ cap ∧ (p = none → cap = 0)) ∧ ops.length * 16 ≤ 140737488355328 ∧ TxS W p ops := by
  obtain ⟨a0, l0, c0, rfl⟩ := okWide_slice Tryd.underlying24 _hv
  obtain ⟨fuel, hf⟩ := h
  obtain ⟨p, cap, ops, e, r⟩ := open_Strs hf hsz
  have e : [Value.slice a0 l0 c0] = [Value.slice p ops.length cap] := e
  exact ⟨p, cap, ops, (List.cons.inj e).1, r⟩

end Go.Proofs.YthchkhfnhhpleaaDoor
