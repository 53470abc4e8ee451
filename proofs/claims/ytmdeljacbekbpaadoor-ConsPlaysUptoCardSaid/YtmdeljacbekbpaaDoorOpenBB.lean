/- Slices of rows of bytes that came in. -/
import Derived.Test.YtmdeljacbekbpaaDoorOpenByt
namespace Go.Proofs.YtmdeljacbekbpaaDoor
open Go.ChangeShapes Go.WideShapes Go.ChangeAt Go.RowKit
set_option maxRecDepth 100000

structure BBy where
  bq : Option Addr
  bs : List Int
  bc : Nat
def BBy.val (o : BBy) : Value := .slice o.bq o.bs.length o.bc
structure BBs (w : World) (p : Option Addr) (l : List BBy) : Prop where
  ok : ∀ o ∈ l, Byt w o.bq o.bs o.bc
  at_ : 0 < l.length → ∃ b off, p = some ⟨b, off, none⟩ ∧ b < w.heap.size ∧ ∀ i o, l[i]? = some o → w.cell? ⟨b, off + i, none⟩ = some o.val

theorem row_cellsBB : Tryd.prog.cellsOf 22 = 1 := by kernel_rfl
theorem row_bytesBB : Tryd.prog.bytesOf 22 = 24 := by kernel_rfl

theorem open_BBs {H : Type} {enc : TypeId × Value → H} {W : World} {fuel : Nat} {cs : List Value} {x : DataW H × List MemPlace}
    (h : DataW.trod enc Tryd.prog W 0 (fun _ => true) true fuel 27 cs = some x) (hsz : ∀ n ∈ x.1.weights Tryd.prog 27, n ≤ 140737488355328) :
    ∃ (p : Option Addr) (cap : Nat) (ops : List BBy), cs = [.slice p ops.length cap] ∧ ops.length ≤ cap ∧ ops.length * 24 ≤ 140737488355328 ∧ BBs W p ops := by
  rcases Go.Deep.open_slice Tryd.underlying27 h with ⟨hcs, _⟩ | ⟨a, len, cap, m, n, D, Pl, hcs, _, hl, _, hmm, hx, hel⟩
  · exact ⟨none, 0, [], hcs, Nat.le_refl _, by simp, by simp, by simp⟩
  · simp only [if_true] at hmm
    have hd : x.1 = .slice ((List.range len).map D) ((List.range (m - len)).map fun j => D (len + j)) := by rw [hx]
    rw [hd] at hsz
    have hw : (len + (m - len)) * 24 ≤ 140737488355328 := by
      have := hsz ((len + (m - len)) * 24) (by simp [DataW.weights, Tryd.underlying27, row_bytesBB])
      exact this
    have hin : ∀ i, i < len → ∀ n ∈ (D i).weights Tryd.prog 22, n ≤ 140737488355328 := by
      intro i hi n hn
      refine hsz n ?_
      simp only [DataW.weights, Tryd.underlying27]
      exact List.mem_cons_of_mem _ (List.mem_append_left _ (weights_each _ n hn _ (List.mem_map_of_mem (List.mem_range.2 hi))))
    have each : ∀ i, i < len → ∃ o : BBy, Byt W o.bq o.bs o.bc ∧ W.cell? (a.add i) = some o.val := by
      intro i hi
      obtain ⟨cs, h1, h2⟩ := hel i (by omega)
      obtain ⟨q, c, bs, rfl, hok⟩ := open_byt h2 (hin i hi)
      obtain ⟨_, hlen, hc⟩ := World.cells?_some h1
      rw [row_cellsBB] at hc hlen
      refine ⟨⟨q, bs, c⟩, hok, ?_⟩
      have := hc 0 (by omega)
      rw [Nat.mul_one] at this
      rw [Go.Deep.add_add] at this
      exact this
    obtain ⟨f, hfo⟩ : ∃ f : Nat → BBy, ∀ i, i < len → Byt W (f i).bq (f i).bs (f i).bc ∧ W.cell? (a.add i) = some (f i).val := by
      refine ⟨fun i => if h : i < len then (each i h).choose else ⟨none, [], 0⟩, fun i hi => ?_⟩
      simp only [hi, dif_pos]
      exact (each i hi).choose_spec
    have hle : ((List.range len).map f).length = len := by simp
    refine ⟨some a, cap, (List.range len).map f, by rw [hle]; exact hcs, by rw [hle]; exact hl, by rw [hle]; omega, ?_, fun h0 => ?_⟩
    · intro o ho
      obtain ⟨i, hi, rfl⟩ := List.mem_map.1 ho
      exact (hfo i (List.mem_range.1 hi)).1
    · rw [hle] at h0
      have hc0 := (hfo 0 h0).2
      obtain ⟨b, off, spot⟩ := a
      have hspot : spot = none := by simpa [Addr.add] using World.cell?_spot hc0
      subst hspot
      refine ⟨b, off, rfl, ?_, fun i o hi => ?_⟩
      · have := World.block_lt_of_cell? W _ hc0
        simpa [Addr.add] using this
      · have hil := (List.getElem?_eq_some_iff.1 hi).1
        rw [hle] at hil
        have ho : o = f i := by
          rw [List.getElem?_map, List.getElem?_range hil] at hi
          exact (Option.some.inj hi).symm
        subst ho
        have := (hfo i hil).2
        rwa [Addr.add_lit] at this

theorem open_BBs_arg {H : Type} {enc : TypeId × Value → H} {W : World} {base : Nat} {v : Value} {d : DataW H} {ps : List MemPlace} (_hv : Value.okWide Tryd.prog W .any base 27 v)
    (h : DataW.Trod enc Tryd.prog W 0 (fun _ => true) true 27 v d ps) (hsz : ∀ n ∈ d.weights Tryd.prog 27, n ≤ 140737488355328) :
    ∃ (p : Option Addr) (cap : Nat) (ops : List BBy), v = .slice p ops.length cap ∧ ops.length ≤ cap ∧ ops.length * 24 ≤ 140737488355328 ∧ BBs W p ops := by
  obtain ⟨a0, l0, c0, rfl⟩ := okWide_slice Tryd.underlying27 _hv
  obtain ⟨fuel, hf⟩ := h
  obtain ⟨p, cap, ops, e, r⟩ := open_BBs hf hsz
  have e : [Value.slice a0 l0 c0] = [Value.slice p ops.length cap] := e
  exact ⟨p, cap, ops, (List.cons.inj e).1, r⟩

end Go.Proofs.YtmdeljacbekbpaaDoor
