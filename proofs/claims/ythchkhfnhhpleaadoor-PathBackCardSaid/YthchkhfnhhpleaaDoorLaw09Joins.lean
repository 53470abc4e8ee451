/- PathJoins: names put together; the walk. -/
import Derived.Test.YthchkhfnhhpleaaDoorRefJoin
import Derived.Deep.DeepAppendWide
namespace Go.Proofs.YthchkhfnhhpleaaDoor
open Go.RowKit Go.Shelf
set_option maxRecDepth 100000

theorem txs_own {W : World} {b : Nat} {v : Value} {l : List (List UInt8)} (h : W.ownsRow b 9 1 v l.length (l.map (fun x => Value.string (txt x)))) (hok : ∀ x ∈ l, x.length ≤ 140737488355328) :
    ∃ p cap, v = .slice p l.length cap ∧ l.length ≤ cap ∧ TxS W p l := by
  rcases h.2 with ⟨rfl, h0⟩ | ⟨g, cap, cur, rfl, hg, hr, hc, r⟩
  · refine ⟨none, 0, by rw [h0], by omega, hok, fun q => by omega⟩
  · refine ⟨some ⟨g, 0, none⟩, cap, rfl, hc, hok, fun _ => ⟨g, 0, rfl, lt_of_blk hr, fun i x hx => ?_⟩⟩
    have := h.cells (g := g) rfl i (.string (txt x)) (by simp [hx])
    rwa [Addr.add_lit] at this

/-- append([]string{}, l...) -/
theorem append_strs {w : World} {os : Array Oper} {rest : List Oper} {o : Oper} {a : Act} {Q : Exit → Act → World → Prop} (hgd : o.guard = none) (s x : Operand)
    (ho : o.op = .call { callee := .builtin .append, args := #[s, x], argTypes := #[24, 24] })
    (l : List (List UInt8)) (p : Option Addr) (cap : Nat) (hv : a.eval s = .slice (some ⟨w.heap.size, 0, none⟩) 0 0)
    (hx : a.eval x = .slice p l.length cap) (hs : TxS w p l) (hlen : l.length * 16 ≤ 140737488355328) (hnil : p = none → cap = 0)
    (h : ∀ p' cap' w', l.length ≤ cap' → TxS w' p' l → Mod No w w' → wpList Tryd.prog os Q rest (a.put o.dst (.slice p' l.length cap')) w') : wpList Tryd.prog os Q (o :: rest) a (w.alloc (.cells #[] 9)) := by
  obtain ⟨i0, hi, hz0, hz1, hz2⟩ := info_parts Tryd.infoStr
  have hown : (w.alloc (.cells #[] 9)).ownsRow w.heap.size 9 1 (.slice (some ⟨w.heap.size, 0, none⟩) 0 0) 0 [] :=
    ⟨rfl, .inr ⟨w.heap.size, 0, #[], rfl, Nat.le_refl _, heap_alloc_new w _, Nat.le_refl _, Nat.zero_le _, rfl, rfl⟩⟩
  cases p with
  | none =>
    have hl : l = [] := by
      cases l with
      | nil => rfl
      | cons o l =>
        obtain ⟨b, off, e, _⟩ := hs.at_ (by simp)
        cases e
    subst hl
    have hc := hnil rfl
    subst hc
    refine wpList_append_own_none hgd s x 24 ho w.heap.size 9 i0 1 Tryd.underlying24 hi (.slice (some ⟨w.heap.size, 0, none⟩) 0 0) 0 [] hv hown hx ?_
    exact h _ _ _ (Nat.zero_le _) ⟨fun x hx => absurd hx (by simp), fun q => absurd q (by simp)⟩ ((Mod.refl _ w).alloc _)
  | some ad =>
    have hs' := hs.kept ((Mod.refl _ w).alloc (.cells #[] 9))
    refine wpList_append_own_wide _ hgd s x 24 ho w.heap.size 9 i0 (.string ⟨#[]⟩) 1 16 Tryd.underlying24 hi hz0 hz1 hz2 rfl (by decide) _ 0 [] hv hown ad l.length cap (l.map (fun x => Value.string (txt x))) hx (by simp) ?_ (by simp [Value.oneCell']) (by unfold maxLen; omega) (by omega) (by simp) ?_
    · intro j u hj
      rw [List.getElem?_map, Option.map_eq_some_iff] at hj
      obtain ⟨y, hy, rfl⟩ := hj
      obtain ⟨b, off, e, _, hc⟩ := hs'.cellAt hy
      cases e
      rw [Addr.add_lit]
      exact hc
    · intro v' w' h1 h2 _
      rw [List.nil_append, Nat.zero_add] at h1
      obtain ⟨p', cap', rfl, hc', ht⟩ := txs_own h1 hs.ok
      refine h p' cap' w' hc' ht ?_
      exact ((Mod.refl _ w).alloc _).grown h2 (fun j ej hlt => by cases ej; exact absurd hlt (Nat.lt_irrefl _))

theorem joins_any (p : Option Addr) (l : List (List UInt8)) (cap : Nat) (w : World) (h : TxS w p l) (hc : l.length ≤ cap ∧ (p = none → cap = 0)) (hsz : l.length * 16 ≤ 140737488355328) :
    Calls Tryd.prog 8 #[.slice p l.length cap] w fun e w' => e = .returned (.bool true) ∧ Mod No w w' := by
  have HA := Lib.hid (fun p' cap' w' (h' : TxS w' p' l) (hc' : l.length ≤ cap') => pjoin_any p' l cap' w' h' hc')
  have HB := Lib.hid (fun w' (hm : Mod No w w') => rjoin_any p l cap w' (h.kept hm))
  have H := Lib.hid h
  have HN := Lib.hid hc.2
  clear h hc
  generalize joinR l = r at HA HB
  obtain ⟨x, e⟩ := r
  dsimp only at HA HB
  generalize txt x = xt at HA HB
  go_enter Tryd.func8, Tryd.ntmps8
  go_wp2_with (at_builtin; refine append_strs rfl _ _ rfl l p cap rfl rfl H.out hsz HN.out ?_; intro p' cap' w1 hc1 ht1 hm1; have HT1 := Lib.hid ht1; have HM1 := Lib.hid hm1; have HC1 := Lib.hid hc1; clear hc1 ht1 hm1)
  refine (HA.out p' cap' w1 HT1.out HC1.out).mono ?_
  rintro e w2 ⟨rfl, hm2⟩
  have HM2 := Lib.hid (HM1.out.trans hm2)
  clear hm2
  go_wp2_with fail
  refine (HB.out _ HM2.out).mono ?_
  rintro e w3 ⟨rfl, rfl⟩
  go_wp2_with fail
  refine (awake_yes _).mono ?_
  rintro e w4 ⟨rfl, hm4⟩
  have HM4 := Lib.hid (HM2.out.trans hm4)
  clear hm4
  go_wp2
  go_ret
  exact ⟨rfl, HM4.out⟩

end Go.Proofs.YthchkhfnhhpleaaDoor
