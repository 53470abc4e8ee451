/- A list of rewrites that the call itself makes by append. -/
import Derived.Test.YthfkpbfapkpnfabViewTwo
import Derived.Laws.AppendOwnNone
namespace Go.Proofs.Ythfkpbfapkpnfab
open Go.RowKit
set_option maxRecDepth 100000

theorem Try.infoPoke : (Try.prog.info? 77).map (fun i => (i.zero, i.size, i.bytes)) = some (some (.agg #[.int .i64 0, .int .i64 0, .int .i64 0, .slice none 0 0]), 4, 48) := by kernel_rfl

def pkCells (l : List Pk) : List Value := l.flatMap Pk.cells
theorem pkCells_app (l m : List Pk) : pkCells (l ++ m) = pkCells l ++ pkCells m := by simp [pkCells]
theorem pkCells_len : ∀ (l : List Pk), (pkCells l).length = l.length * 4
  | [] => rfl
  | p :: l => by
    have ih := pkCells_len l
    simp only [pkCells, List.flatMap_cons, List.length_append, List.length_cons, Pk.cells, List.length_nil] at ih ⊢
    rw [ih]; omega
theorem pkCells_get : ∀ (l : List Pk) (i j : Nat) (o : Pk), l[i]? = some o → j < 4 → (pkCells l)[i * 4 + j]? = o.cells[j]?
  | [], i, j, o, hi, _ => by simp at hi
  | g :: l, 0, j, o, hi, hj => by
    simp at hi; subst hi
    simp only [pkCells, List.flatMap_cons, Nat.zero_mul, Nat.zero_add]
    rw [List.getElem?_append_left (by simpa [Pk.cells] using hj)]
  | g :: l, i + 1, j, o, hi, hj => by
    have ih := pkCells_get l i j o (by simpa using hi) hj
    simp only [pkCells, List.flatMap_cons] at ih ⊢
    rw [List.getElem?_append_right (by simp [Pk.cells]; omega), show (i + 1) * 4 + j - g.cells.length = i * 4 + j by simp [Pk.cells]; omega]
    exact ih

theorem pkCells_one : ∀ (l : List Pk), ∀ u ∈ pkCells l, u.oneCell' = true := by
  intro l u hu
  obtain ⟨o, _, ho⟩ := List.mem_flatMap.1 hu
  simp only [Pk.cells, List.mem_cons, List.not_mem_nil, or_false] at ho
  rcases ho with rfl | rfl | rfl | rfl <;> simp [Value.oneCell']

theorem PkS.news {w : World} {ad : Addr} {l : List Pk} (h : PkS w (some ad) l) : ∀ j u, (pkCells l)[j]? = some u → w.cell? (ad.add j) = some u := by
  intro j u hj
  have hjl := (List.getElem?_eq_some_iff.1 hj).1
  rw [pkCells_len] at hjl
  obtain ⟨o, ho⟩ : ∃ o, l[j / 4]? = some o := ⟨_, List.getElem?_eq_getElem (by omega)⟩
  obtain ⟨b, off, e, _, hc⟩ := h.at_ (by omega)
  cases e
  have hg := pkCells_get l (j / 4) (j % 4) o ho (Nat.mod_lt _ (by omega))
  rw [show j / 4 * 4 + j % 4 = j by omega, hj] at hg
  have := hc (j / 4) o ho (j % 4) u hg.symm
  rw [show off + (j / 4 * 4 + j % 4) = off + j by omega] at this
  rw [Addr.add_lit]
  exact this

theorem PkS.ofOwn {w : World} {base : Nat} {q : Option Addr} {c : Nat} {l : List Pk} (h : w.ownsRow base 77 4 (.slice q l.length c) l.length (pkCells l)) (hok : ∀ o ∈ l, o.ok w) : PkS w q l := by
  refine ⟨hok, fun h0 => ?_⟩
  rcases h.2 with ⟨e, h2⟩ | ⟨g, cap, cur, e, hg, hrow, hc, hm, hs, ht⟩
  · omega
  · cases e
    refine ⟨g, 0, rfl, lt_of_blk hrow, fun i o hi j v hj => ?_⟩
    have hj4 : j < 4 := by have := (List.getElem?_eq_some_iff.1 hj).1; simpa [Pk.cells] using this
    have h1 := pkCells_get l i j o hi hj4
    rw [hj] at h1
    have := h.cells (g := g) rfl (i * 4 + j) v h1
    rw [Addr.add_lit] at this
    exact this

theorem pk_nil {H : Type} {enc : TypeId × Value → H} {W : World} {n c : Nat} {q : Option Addr} {d : DataW H} {ps : List MemPlace} (h : DataW.Trod enc Try.prog W 0 (fun _ => true) true 61 (.slice q n c) d ps) : q = none → c = 0 := by
  rintro rfl
  obtain ⟨fuel, hf⟩ := h
  rcases Go.Deep.open_slice Try.underlying61 hf with ⟨hcs, _⟩ | ⟨a, len, cap, m, n', D, Pl, hcs, _⟩
  · have e : [Value.slice none n c] = [Value.slice none 0 0] := hcs
    cases e; rfl
  · have e : [Value.slice none n c] = [Value.slice (some a) len cap] := hcs
    cases e

theorem wpList_append_pk {w : World} {ops : Array Oper} {rest : List Oper} {o : Oper} {a : Act} {Q : Exit → Act → World → Prop} (hgd : o.guard = none) (s x : Operand)
    (ho : o.op = .call { callee := .builtin .append, args := #[s, x], argTypes := #[61, 61] }) (base : Nat) (v : Value) (xs : List Pk) (hs : a.eval s = v) (hown : w.ownsRow base 77 4 v xs.length (pkCells xs))
    (q : Option Addr) (l : List Pk) (c : Nat) (hx : a.eval x = .slice q l.length c) (hb : PkS w q l) (hc : q = none → c = 0) (hlen : (xs.length + l.length) * 48 ≤ 140737488355328) (hbase : base ≤ w.heap.size)
    (h : ∀ v' w', w'.ownsRow base 77 4 v' (xs ++ l).length (pkCells (xs ++ l)) → w.grownBy w' v.ownBlock → wpList Try.prog ops Q rest (a.put o.dst v') w') : wpList Try.prog ops Q (o :: rest) a w := by
  obtain ⟨u0, hu, hu0, hu1, hu2⟩ := info_parts Try.infoPoke
  cases q with
  | none =>
    obtain rfl := hc rfl
    have hl : l = [] := by
      cases l with
      | nil => rfl
      | cons p l => obtain ⟨b, off, e, _⟩ := hb.at_ (by simp); cases e
    subst hl
    refine wpList_append_own_none hgd s x 61 ho base 77 u0 4 Try.underlying61 hu v xs.length _ hs hown hx ?_
    refine h v w (by simpa using hown) ⟨rfl, rfl, rfl, Nat.le_refl _, fun _ _ _ => rfl⟩
  | some ad =>
    refine wpList_append_own w hgd s x 61 ho base 77 u0 _ 4 48 Try.underlying61 hu hu0 hu1 hu2 rfl (by decide) v xs.length _ hs hown ad l.length c (pkCells l) hx (pkCells_len l) hb.news (pkCells_one l) (by unfold maxLen; omega) hlen hbase ?_
    intro v' w' h1 h2 _
    exact h v' w' (by rw [pkCells_app, List.length_append]; exact h1) h2

end Go.Proofs.Ythfkpbfapkpnfab
