/- Bytes that came in. -/
import Derived.Test.YtmdeljacbekbpaaDoorPhysG
import Derived.Test.YtmdeljacbekbpaaDoorRowKit
import Derived.Test.YtmdeljacbekbpaaDoorBothG
import Derived.Deep.Slices
import Derived.Laws.AppendOwnNone
namespace Go.Proofs.YtmdeljacbekbpaaDoor
open Go.ChangeShapes Go.WideShapes Go.ChangeAt Go.RowKit
set_option maxRecDepth 100000

/-- A slice of bytes that lies in w. -/
structure Byt (w : World) (q : Option Addr) (bs : List Int) (cap : Nat) : Prop where
  range : ∀ x ∈ bs, 0 ≤ x ∧ x ≤ 255
  fit : bs.length ≤ cap
  len : bs.length ≤ 140737488355328
  nil : q = none → bs = [] ∧ cap = 0
  at_ : 0 < bs.length → ∃ b off, q = some ⟨b, off, none⟩ ∧ b < w.heap.size ∧ ∀ j x, bs[j]? = some x → w.cell? ⟨b, off + j, none⟩ = some (.int .u8 x)

theorem Byt.kept {w w' : World} {q : Option Addr} {bs : List Int} {cap : Nat} (h : Byt w q bs cap) (hm : Mod No w w') : Byt w' q bs cap := by
  refine ⟨h.range, h.fit, h.len, h.nil, fun h0 => ?_⟩
  obtain ⟨b, off, e, hb, hc⟩ := h.at_ h0
  exact ⟨b, off, e, Nat.lt_of_lt_of_le hb hm.size, fun j x hj => (World.cell?_of_block (w := w) (hm.block b hb (fun q => q))).trans (hc j x hj)⟩

theorem Byt.src {w : World} {q : Option Addr} {bs : List Int} {cap : Nat} (h : Byt w q bs cap) : Src w q bs := by
  refine ⟨h.range, fun h0 => ?_⟩
  obtain ⟨b, off, e, _, hc⟩ := h.at_ h0
  exact ⟨⟨b, off, none⟩, e, fun j x hj => by rw [Addr.add_lit]; exact hc j x hj⟩

/-- .. as what a call of the document's machine hands in: its blocks lie behind the input. -/
theorem Byt.rsrc {w0 w : World} {q : Option Addr} {bs : List Int} {cap : Nat} (h : Byt w0 q bs cap) (hm : Mod No w0 w) {K : RfK} (hK : ∀ k, K.has k → w0.heap.size ≤ k) :
    0 < bs.length → ∃ b o, q = some ⟨b, o, none⟩ ∧ ¬ K.inn b ∧ bs.length ≤ cap ∧ ∀ j x, bs[j]? = some x → w.cell? ⟨b, o + j, none⟩ = some (.int .u8 x) := by
  intro h0
  obtain ⟨b, off, e, hb, hc⟩ := h.at_ h0
  exact ⟨b, off, e, fun q => by have := hK b (RfK.inn_has q); omega, h.fit, fun j x hj => (World.cell?_of_block (w := w0) (hm.block b hb (fun q => q))).trans (hc j x hj)⟩

theorem row_bytesU8b : Tryd.prog.bytesOf 5 = 1 := by kernel_rfl

theorem open_byt {H : Type} {enc : TypeId × Value → H} {W : World} {fuel : Nat} {cs : List Value} {x : DataW H × List MemPlace}
    (h : DataW.trod enc Tryd.prog W 0 (fun _ => true) true fuel 22 cs = some x) (hsz : ∀ n ∈ x.1.weights Tryd.prog 22, n ≤ 140737488355328) : ∃ q cap bs, cs = [.slice q bs.length cap] ∧ Byt W q bs cap := by
  rcases open_ints Tryd.underlying22 Tryd.underlying5 row_cellsU8 h with ⟨hcs, hx⟩ | ⟨a, len, cap, zs, hcs, _, hl, hm, hz, hx, hcell, hwz⟩
  · exact ⟨none, 0, [], hcs, by simp, Nat.le_refl _, by simp, fun _ => ⟨rfl, rfl⟩, fun h => absurd h (by simp)⟩
  · simp only [if_true] at hz
    have hlen : (zs.take len).length = len := by rw [List.length_take]; omega
    refine ⟨some a, cap, zs.take len, by rw [hlen]; exact hcs, fun b hb => bounds_u8 (hwz b (List.mem_of_mem_take hb)), by rw [hlen]; exact hl, ?_, (fun q => by cases q), fun h0 => ?_⟩
    · have h1 := hsz (zs.length * Tryd.prog.bytesOf 5) (by
        rw [hx]
        simp only [DataW.weights, Tryd.underlying22]
        refine List.mem_cons.2 (.inl ?_)
        congr 1
        simp [lits]; omega)
      rw [row_bytesU8b] at h1
      rw [hlen]; omega
    · rw [hlen] at h0
      obtain ⟨b, off, rfl, hc⟩ := ints_at hcell (by omega)
      have hcs : ∀ j y, (zs.take len)[j]? = some y → W.cell? ⟨b, off + j, none⟩ = some (.int .u8 y) := by
        intro j y hj
        have hjl : j < (zs.take len).length := (List.getElem?_eq_some_iff.1 hj).1
        rw [hlen] at hjl
        rw [List.getElem?_take_of_lt hjl] at hj
        rw [hc j (by omega), List.getD_eq_getElem?_getD, hj]; rfl
      refine ⟨b, off, rfl, ?_, hcs⟩
      obtain ⟨y, hy⟩ : ∃ y, (zs.take len)[0]? = some y := ⟨_, List.getElem?_eq_getElem (by omega)⟩
      exact World.block_lt_of_cell? W _ (hcs 0 y hy)

theorem open_byt_arg {H : Type} {enc : TypeId × Value → H} {W : World} {base : Nat} {v : Value} {d : DataW H} {ps : List MemPlace} (hv : Value.okWide Tryd.prog W .any base 22 v)
    (h : DataW.Trod enc Tryd.prog W 0 (fun _ => true) true 22 v d ps) (hsz : ∀ n ∈ d.weights Tryd.prog 22, n ≤ 140737488355328) : ∃ q cap bs, v = .slice q bs.length cap ∧ Byt W q bs cap := by
  obtain ⟨a0, l0, c0, rfl⟩ := okWide_slice Tryd.underlying22 hv
  obtain ⟨fu, hf⟩ := h
  obtain ⟨q, cap, bs, e, hb⟩ := open_byt hf hsz
  have e : [Value.slice a0 l0 c0] = [Value.slice q bs.length cap] := e
  exact ⟨q, cap, bs, (List.cons.inj e).1, hb⟩

theorem weights_each {H : Type} {P : Program} {t : TypeId} (x : DataW H) (n : Nat) (hn : n ∈ x.weights P t) : ∀ (l : List (DataW H)), x ∈ l → n ∈ DataW.weightsAll P t l
  | [], h => by cases h
  | y :: l, h => by
    rcases List.mem_cons.1 h with h | h
    · rw [DataW.weightsAll, ← h]; exact List.mem_append_left _ hn
    · rw [DataW.weightsAll]; exact List.mem_append_right _ (weights_each x n hn l h)

/-- append of bytes that came in, nil too, onto a row of the call's own. -/
theorem wpList_append_byt {w : World} {ops : Array Oper} {rest : List Oper} {o : Oper} {a : Act} {Q : Exit → Act → World → Prop} (hgd : o.guard = none) (s x : Operand)
    (ho : o.op = .call { callee := .builtin .append, args := #[s, x], argTypes := #[22, 22] }) (base : Nat) (v : Value) (xs : List Int) (hs : a.eval s = v) (hown : w.ownsRow base 5 1 v xs.length (xs.map (Value.int .u8)))
    (q : Option Addr) (bs : List Int) (c : Nat) (hx : a.eval x = .slice q bs.length c) (hb : Byt w q bs c) (hlen : xs.length + bs.length ≤ 140737488355328) (hbase : base ≤ w.heap.size)
    (h : ∀ v' w', w'.ownsRow base 5 1 v' (xs ++ bs).length ((xs ++ bs).map (Value.int .u8)) → w.grownBy w' v.ownBlock → wpList Tryd.prog ops Q rest (a.put o.dst v') w') : wpList Tryd.prog ops Q (o :: rest) a w := by
  obtain ⟨u0, hu, hu0, hu1, hu2⟩ := info_parts Tryd.infoU8
  cases q with
  | none =>
    obtain ⟨rfl, rfl⟩ := hb.nil rfl
    refine wpList_append_own_none hgd s x 22 ho base 5 u0 1 Tryd.underlying22 hu v xs.length _ hs hown hx ?_
    refine h v w (by simpa using hown) ⟨rfl, rfl, rfl, Nat.le_refl _, fun _ _ _ => rfl⟩
  | some ad =>
    refine wpList_append_own w hgd s x 22 ho base 5 u0 (.int .u8 0) 1 1 Tryd.underlying22 hu hu0 hu1 hu2 rfl (by decide) v xs.length _ hs hown ad bs.length c (bs.map (Value.int .u8)) hx (by simp) ?_ (oneCell_u8 _) (by unfold maxLen; omega) (by omega) hbase ?_
    · intro j u hj
      rw [List.getElem?_map] at hj
      obtain ⟨y, hy, rfl⟩ := Option.map_eq_some_iff.1 hj
      have hjl := (List.getElem?_eq_some_iff.1 hy).1
      obtain ⟨ad', e, hc⟩ := hb.src.cells (by omega)
      cases e
      exact hc j y hy
    · intro v' w' h1 h2 _
      exact h v' w' (by simpa using h1) h2

end Go.Proofs.YtmdeljacbekbpaaDoor

