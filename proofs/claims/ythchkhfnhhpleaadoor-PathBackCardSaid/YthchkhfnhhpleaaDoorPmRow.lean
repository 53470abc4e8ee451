/- Rows of permissions: their cells. -/
import Derived.Test.YthchkhfnhhpleaaDoorOpenPm
import Derived.Laws.AppendOwnNone
import Derived.Deep.DeepAppendWide
namespace Go.Proofs.YthchkhfnhhpleaaDoor
open Go.RowKit
set_option maxRecDepth 100000

theorem Tryd.infoPerm : ∃ i0, Tryd.prog.info? 60 = some i0 ∧ i0.zero = some (.agg #[.int .i64 0, .bool false, .bool false]) ∧ i0.size = 3 ∧ i0.bytes = 16 := by
  have h : (Tryd.prog.info? 60).map (fun i => (i.zero, i.size, i.bytes)) = some (some (.agg #[.int .i64 0, .bool false, .bool false]), 3, 16) := by kernel_rfl
  cases hi : Tryd.prog.info? 60 with
  | none => rw [hi] at h; cases h
  | some i0 =>
    rw [hi] at h
    simp only [Option.map_some, Option.some.injEq, Prod.mk.injEq] at h
    exact ⟨i0, rfl, h.1, h.2.1, h.2.2⟩

def pmCells (l : List Pm) : List Value := l.flatMap Pm.cells
theorem pmCells_len : ∀ (l : List Pm), (pmCells l).length = l.length * 3
  | [] => rfl
  | o :: l => by
    have := pmCells_len l
    simp only [pmCells, List.flatMap_cons, List.length_append, Pm.cells, List.length_cons, List.length_nil] at this ⊢
    omega
theorem pmCells_get : ∀ (l : List Pm) (i j : Nat) (o : Pm) (v : Value), l[i]? = some o → o.cells[j]? = some v → (pmCells l)[i * 3 + j]? = some v
  | [], i, _, _, _, h, _ => by simp at h
  | x :: l, 0, j, o, v, h, hv => by
    obtain rfl : x = o := by simpa using h
    have hj : j < x.cells.length := (List.getElem?_eq_some_iff.1 hv).1
    simp only [pmCells, List.flatMap_cons, Nat.zero_mul, Nat.zero_add]
    rw [List.getElem?_append_left hj, hv]
  | x :: l, i + 1, j, o, v, h, hv => by
    have h2 : l[i]? = some o := by simpa using h
    simp only [pmCells, List.flatMap_cons]
    rw [List.getElem?_append_right (by simp [Pm.cells]; omega)]
    have := pmCells_get l i j o v h2 hv
    rw [show (i + 1) * 3 + j - x.cells.length = i * 3 + j by simp [Pm.cells]; omega]
    exact this
theorem pmCells_one (l : List Pm) : ∀ u ∈ pmCells l, u.oneCell' = true := by
  intro u hu
  obtain ⟨o, _, ho⟩ := List.mem_flatMap.1 hu
  simp only [Pm.cells, List.mem_cons, List.not_mem_nil, or_false] at ho
  rcases ho with rfl | rfl | rfl <;> rfl
theorem pmCells_at {l : List Pm} {n : Nat} {v : Value} (h : (pmCells l)[n]? = some v) : ∃ o, l[n / 3]? = some o ∧ o.cells[n % 3]? = some v := by
  have hn : n < l.length * 3 := by rw [← pmCells_len]; exact (List.getElem?_eq_some_iff.1 h).1
  have hd : n / 3 < l.length := by omega
  refine ⟨l[n / 3], List.getElem?_eq_getElem hd, ?_⟩
  have hj : n % 3 < (l[n / 3]).cells.length := by simp [Pm.cells]; omega
  have := pmCells_get l (n / 3) (n % 3) _ _ (List.getElem?_eq_getElem hd) (List.getElem?_eq_getElem hj)
  rw [show n / 3 * 3 + n % 3 = n by omega, h] at this
  rw [List.getElem?_eq_getElem hj, ← this]

theorem pms_own {W : World} {b : Nat} {v : Value} {l : List Pm} (h : W.ownsRow b 60 3 v l.length (pmCells l)) (hok : ∀ o ∈ l, (Lit.int .i64 o.dom).wf = true) :
    ∃ p cap, v = .slice p l.length cap ∧ l.length ≤ cap ∧ (p = none → cap = 0) ∧ PmS W p l := by
  rcases h.2 with ⟨rfl, h0⟩ | ⟨g, cap, cur, rfl, hg, hr, hc, r⟩
  · exact ⟨none, 0, by rw [h0], by omega, fun _ => rfl, fun o ho => ⟨hok o ho⟩, fun q => by omega⟩
  · refine ⟨some ⟨g, 0, none⟩, cap, rfl, hc, (fun e => by cases e), fun o ho => ⟨hok o ho⟩, fun _ => ⟨g, 0, rfl, lt_of_blk hr, fun i o hi j u hj => ?_⟩⟩
    have := h.cells (g := g) rfl (i * 3 + j) u (pmCells_get l i j o u hi hj)
    rwa [Addr.add_lit] at this

/-- append([]api.Perm{}, l...) -/
theorem append_perms {w : World} {os : Array Oper} {rest : List Oper} {o : Oper} {a : Act} {Q : Exit → Act → World → Prop} (hgd : o.guard = none) (s x : Operand)
    (ho : o.op = .call { callee := .builtin .append, args := #[s, x], argTypes := #[37, 37] })
    (l : List Pm) (p : Option Addr) (cap : Nat) (hv : a.eval s = .slice (some ⟨w.heap.size, 0, none⟩) 0 0)
    (hx : a.eval x = .slice p l.length cap) (hs : PmS w p l) (hlen : l.length * 16 ≤ 140737488355328) (hnil : p = none → cap = 0)
    (h : ∀ p' cap' w', l.length ≤ cap' → PmS w' p' l → Mod No w w' → wpList Tryd.prog os Q rest (a.put o.dst (.slice p' l.length cap')) w') : wpList Tryd.prog os Q (o :: rest) a (w.alloc (.cells #[] 60)) := by
  obtain ⟨i0, hi, hz0, hz1, hz2⟩ := Tryd.infoPerm
  have hown : (w.alloc (.cells #[] 60)).ownsRow w.heap.size 60 3 (.slice (some ⟨w.heap.size, 0, none⟩) 0 0) 0 [] :=
    ⟨rfl, .inr ⟨w.heap.size, 0, #[], rfl, Nat.le_refl _, heap_alloc_new w _, Nat.le_refl _, Nat.zero_le _, rfl, rfl⟩⟩
  cases p with
  | none =>
    have hl : l = [] := by
      cases l with
      | nil => rfl
      | cons o l =>
        obtain ⟨b, off, e, _⟩ := hs.at_ (by simp)
        cases e
    subst hl
    have hc := hnil rfl
    subst hc
    refine wpList_append_own_none hgd s x 37 ho w.heap.size 60 i0 3 Tryd.underlying37 hi (.slice (some ⟨w.heap.size, 0, none⟩) 0 0) 0 [] hv hown hx ?_
    exact h _ _ _ (Nat.zero_le _) ⟨fun x hx => absurd hx (by simp), fun q => absurd q (by simp)⟩ ((Mod.refl _ w).alloc _)
  | some ad =>
    have hs' := hs.kept ((Mod.refl _ w).alloc (.cells #[] 60))
    refine wpList_append_own_wide _ hgd s x 37 ho w.heap.size 60 i0 (.agg #[.int .i64 0, .bool false, .bool false]) 3 16 Tryd.underlying37 hi hz0 hz1 hz2 rfl (by decide) _ 0 [] hv hown ad l.length cap (pmCells l) hx (by rw [pmCells_len]) ?_ (pmCells_one l) (by unfold maxLen; omega) (by omega) (by simp) ?_
    · intro j u hj
      obtain ⟨y, hy, hyc⟩ := pmCells_at hj
      have hlt : 0 < l.length := by have := (List.getElem?_eq_some_iff.1 hy).1; omega
      obtain ⟨b, off, e, _, hc⟩ := hs'.at_ hlt
      cases e
      have := hc _ _ hy _ _ hyc
      rw [Addr.add_lit]
      rwa [show j / 3 * 3 + j % 3 = j by omega] at this
    · intro v' w' h1 h2 _
      rw [List.nil_append, Nat.zero_add] at h1
      obtain ⟨p', cap', rfl, hc', _, ht⟩ := pms_own h1 (fun o ho => (hs.ok o ho).w_dom)
      refine h p' cap' w' hc' ht ?_
      exact ((Mod.refl _ w).alloc _).grown h2 (fun j ej hlt => by cases ej; exact absurd hlt (Nat.lt_irrefl _))

end Go.Proofs.YthchkhfnhhpleaaDoor
