/- tenementref09.Parse. -/
import Derived.Test.YthchkhfnhhpleaaDoorPathUnder
import Derived.Laws.AppendOwnNone
import Derived.Laws.CopyOwn
namespace Go.Proofs.YthchkhfnhhpleaaDoor
open Go.RowKit Go.Shelf
set_option maxRecDepth 100000

/-- The names that the document has parsed when it stands behind i bytes: what is left, the name begun. -/
theorem parseR_go {l : List UInt8} (hl : l ≠ []) (hlen : l.length ≤ 255) : parseR (47 :: l) = match refGo l 1 1 0 with | none => (parts l, 0, 0) | some (a, e) => ([], a, e) := by
  rw [refGo_eq l [] 1 1 0 (fun c hc => by cases hc) rfl (by simp) (fun h => absurd rfl h), consHead_nil (parts_ne l)]
  unfold parseR
  rw [if_neg (by simp; omega)]
  dsimp only
  rw [if_pos rfl, if_neg hl]
  cases parseGo (parts l) 1 0 <;> rfl

/-- The document's round begins: before byte j of what stands behind the first stroke, the name began at byte f, these are the names so far. -/
structure RP (l : List UInt8) (j f : Nat) (pre : List (List UInt8)) : Prop where
  fj : f ≤ j
  jl : j ≤ l.length + 1
  pj : pre.length ≤ j
  go : j ≤ l.length → refGo l 1 1 0 = refGo (l.drop j) (j + 1) (f + 1) pre.length
  pa : j ≤ l.length → parts l = pre ++ consHead ((l.drop f).take (j - f)) (parts (l.drop j))
  en : j = l.length + 1 → f = j ∧ parts l = pre ∧ refGo l 1 1 0 = none

theorem RP.start (l : List UInt8) : RP l 0 0 [] := ⟨Nat.le_refl _, by omega, Nat.le_refl _, fun _ => rfl, fun _ => (consHead_nil (parts_ne l)).symm, fun h => by omega⟩
theorem RP.deep {l : List UInt8} {j f : Nat} {pre : List (List UInt8)} (h : RP l j f pre) {c : UInt8} (hc : l[j]? = some c) (hn : c ≠ 47) (h1 : j = f) (h2 : pre.length = 8) : refGo l 1 1 0 = some (j + 1, 2) := by
  obtain ⟨hj, he⟩ := List.getElem?_eq_some_iff.1 hc
  rw [h.go (by omega), List.drop_eq_getElem_cons hj, he, refGo, if_neg hn, if_pos ⟨by omega, h2⟩]
theorem RP.bad {l : List UInt8} {j f : Nat} {pre : List (List UInt8)} (h : RP l j f pre) {c : UInt8} (hc : l[j]? = some c) (hn : c ≠ 47) (h1 : ¬ (j = f ∧ pre.length = 8)) (hb : letN c.toNat = false) : refGo l 1 1 0 = some (j + 1, 90) := by
  obtain ⟨hj, he⟩ := List.getElem?_eq_some_iff.1 hc
  rw [h.go (by omega), List.drop_eq_getElem_cons hj, he, refGo, if_neg hn, if_neg (fun q => h1 ⟨by omega, q.2⟩), if_neg (by simp [hb])]
theorem RP.long {l : List UInt8} {j f : Nat} {pre : List (List UInt8)} (h : RP l j f pre) {c : UInt8} (hc : l[j]? = some c) (hn : c ≠ 47) (h1 : ¬ (j = f ∧ pre.length = 8)) (hb : letN c.toNat = true) (h3 : j = f + 32) : refGo l 1 1 0 = some (j + 1, 2) := by
  obtain ⟨hj, he⟩ := List.getElem?_eq_some_iff.1 hc
  rw [h.go (by omega), List.drop_eq_getElem_cons hj, he, refGo, if_neg hn, if_neg (fun q => h1 ⟨by omega, q.2⟩), if_pos hb, if_pos (by omega)]
theorem RP.on {l : List UInt8} {j f : Nat} {pre : List (List UInt8)} (h : RP l j f pre) {c : UInt8} (hc : l[j]? = some c) (hn : c ≠ 47) (h1 : ¬ (j = f ∧ pre.length = 8)) (hb : letN c.toNat = true) (h3 : j ≠ f + 32) : RP l (j + 1) f pre := by
  obtain ⟨hj, he⟩ := List.getElem?_eq_some_iff.1 hc
  have hfj := h.fj
  refine ⟨by omega, by omega, by have := h.pj; omega, fun _ => ?_, fun _ => ?_, fun e => by omega⟩
  · rw [h.go (by omega), List.drop_eq_getElem_cons hj, he, refGo, if_neg hn, if_neg (fun q => h1 ⟨by omega, q.2⟩), if_pos hb, if_neg (by omega)]
  · rw [h.pa (by omega), List.drop_eq_getElem_cons hj, he, consHead_parts _ _ _ hn]
    congr 2
    rw [show j + 1 - f = (j - f) + 1 by omega, List.take_add_one, List.getElem?_drop, show f + (j - f) = j by omega, hc]
    rfl
theorem RP.gap {l : List UInt8} {j f : Nat} {pre : List (List UInt8)} (h : RP l j f pre) (hc : j = l.length ∨ l[j]? = some 47) (h1 : j = f) : refGo l 1 1 0 = some (j + 1, if pre.length = 8 then 2 else 90) := by
  rcases hc with e | hc
  · rw [h.go (by omega), List.drop_of_length_le (by omega), refGo, if_pos (by omega)]
    split <;> rfl
  · obtain ⟨hj, he⟩ := List.getElem?_eq_some_iff.1 hc
    rw [h.go (by omega), List.drop_eq_getElem_cons hj, he, refGo, if_pos rfl, if_pos (by omega)]
    split <;> rfl
theorem RP.name {l : List UInt8} {j f : Nat} {pre : List (List UInt8)} (h : RP l j f pre) (hc : j = l.length ∨ l[j]? = some 47) (h1 : j ≠ f) : RP l (j + 1) (j + 1) (pre ++ [(l.drop f).take (j - f)]) := by
  have hpj := h.pj
  rcases hc with e | hc
  · have h0 : l.drop j = [] := List.drop_of_length_le (by omega)
    refine ⟨Nat.le_refl _, by omega, by simp; omega, fun q => by omega, fun q => by omega, fun _ => ⟨rfl, ?_, ?_⟩⟩
    · rw [h.pa (by omega), h0]; simp [parts, consHead]
    · rw [h.go (by omega), h0, refGo, if_neg (by omega)]
  · obtain ⟨hj, he⟩ := List.getElem?_eq_some_iff.1 hc
    refine ⟨Nat.le_refl _, by omega, by simp; omega, fun _ => ?_, fun _ => ?_, fun q => by omega⟩
    · rw [h.go (by omega), List.drop_eq_getElem_cons hj, he, refGo, if_pos rfl, if_neg (by omega), List.length_append]; rfl
    · rw [h.pa (by omega), List.drop_eq_getElem_cons hj, he, parts, if_pos rfl, Nat.sub_self, List.take_zero, consHead_nil (parts_ne _)]
      simp only [consHead, List.append_nil, List.append_assoc, List.cons_append, List.nil_append]
/-- The name's text. -/
theorem piece_eq (l : List UInt8) (j f : Nat) (hf : f ≤ j) : (txt (47 :: l)).extract (f + 1) (j + 1) = txt ((l.drop f).take (j - f)) := by
  apply ByteArray.ext
  apply Array.toList_inj.1
  rw [ByteArray.data_extract, Array.toList_extract]
  show (47 :: l).extract (f + 1) (j + 1) = (l.drop f).take (j - f)
  rw [List.extract_eq_take_drop, List.drop_succ_cons, show j + 1 - (f + 1) = j - f by omega]
theorem parseR_bad {l : List UInt8} (hl : l ≠ []) (hlen : l.length ≤ 255) {a e : Nat} (h : refGo l 1 1 0 = some (a, e)) : parseR (47 :: l) = ([], a, e) := by
  rw [parseR_go hl hlen, h]
theorem parseR_fine {l : List UInt8} (hl : l ≠ []) (hlen : l.length ≤ 255) (h : refGo l 1 1 0 = none) : parseR (47 :: l) = (parts l, 0, 0) := by
  rw [parseR_go hl hlen, h]
theorem parse_good {l : List UInt8} {pre : List (List UInt8)} {w w' : World} {v : Value} (h : parseR (47 :: l) = (parts l, 0, 0)) (hp : parts l = pre) (hb : Below w.heap.size w w') (hrow : w'.ownsRow w.heap.size 9 1 v pre.length (pre.map (fun l => Value.string (txt l)))) : ParsePost (47 :: l) w (.returned (.tuple #[v, .int .i64 ((0 : Nat) : Int), .int .i64 ((0 : Nat) : Int)])) w' := by
  unfold ParsePost
  rw [h, hp]
  exact ⟨v, rfl, hb, hrow⟩

theorem rparse_long (L : List UInt8) (w : World) (hk : 256 < L.length) : Calls Tryd.prog 17 #[.string (txt L)] w (ParsePost L w) := by
  have hsz : (txt L).size = L.length := by show L.toArray.size = _; simp
  have hR : parseR L = ([], 0, 2) := by unfold parseR; rw [if_pos hk]
  have HR := Lib.hid hR
  have d1 : decide ((L.length : Int) > 256) = true := decide_eq_true (by omega)
  clear hR
  go_enter Tryd.func17, Tryd.ntmps17
  go_wp2
  go_ret3
  exact parse_done HR.out (Below.refl _ _)
theorem rparse_nil (w : World) : Calls Tryd.prog 17 #[.string ⟨#[]⟩] w (ParsePost [] w) := by
  go_enter Tryd.func17, Tryd.ntmps17
  go_wp2
  go_ret3
  exact parse_done (x := 0) (y := 90) rfl (Below.refl _ _)
theorem rparse_root (w : World) : Calls Tryd.prog 17 #[.string ⟨#[47]⟩] w (ParsePost [47] w) := by
  go_enter Tryd.func17, Tryd.ntmps17
  go_wp2
  go_ret3
  exact parse_done (x := 0) (y := 0) rfl (Below.refl _ _)
theorem rparse_other (c : UInt8) (l : List UInt8) (w : World) (hk : (c :: l).length ≤ 256) (hc : c ≠ 47) : Calls Tryd.prog 17 #[.string (txt (c :: l))] w (ParsePost (c :: l) w) := by
  have hsz : (txt (c :: l)).size = l.length + 1 := by show (c :: l).toArray.size = _; simp
  have hse : (txt (c :: l)).toList.isEmpty = false := by rw [toList_emp, hsz]; simp
  have h0 : ∀ h, (txt (c :: l))[0]'h = c := fun h => rfl
  have hl0 : (0 : Int) < (l.length : Int) + 1 := by omega
  have d1 : decide (((l.length : Int) + 1) > 256) = false := decide_eq_false (by simp only [List.length_cons] at hk; omega)
  have d2 : ((c.toNat : Int) != 47) = true := bne_iff_ne.2 (fun e => hc (UInt8.toNat_inj.1 (by show c.toNat = 47; omega)))
  have hR : parseR (c :: l) = ([], 0, 90) := by
    unfold parseR
    rw [if_neg (by omega)]
    dsimp only
    rw [if_neg hc]
  have HR := Lib.hid hR
  clear hR hc
  go_enter Tryd.func17, Tryd.ntmps17
  go_wp2
  go_ret3
  exact parse_done HR.out (Below.refl _ _)

end Go.Proofs.YthchkhfnhhpleaaDoor
