/- tenementref09.Under; texts. -/
import Derived.Test.YthchkhfnhhpleaaDoorRefParse3
import Derived.Test.YthchkhfnhhpleaaDoorPathUnder
namespace Go.Proofs.YthchkhfnhhpleaaDoor
open Go.RowKit Go.Shelf
set_option maxRecDepth 100000

/-- A list of texts, wherever it lies. -/
def Tx (W : World) (v : Value) (xs : List (List UInt8)) : Prop :=
  (∃ g cap, v = .slice g xs.length cap) ∧ ∀ i x, xs[i]? = some x → ∃ b off cap, v = .slice (some ⟨b, off, none⟩) xs.length cap ∧ W.cell? ⟨b, off + i, none⟩ = some (.string (txt x))
theorem tx_own {W : World} {n : Nat} {v : Value} {xs : List (List UInt8)} (h : W.ownsRow n 9 1 v xs.length (xs.map (fun l => Value.string (txt l)))) : Tx W v xs := by
  refine ⟨owns_sl h, fun i x hx => ?_⟩
  rcases h.2 with ⟨_, h0⟩ | ⟨g, cap, cur, rfl, hg, r⟩
  · rw [List.eq_nil_of_length_eq_zero h0] at hx; simp at hx
  · refine ⟨g, 0, cap, rfl, ?_⟩
    have := h.cells (g := g) rfl i (.string (txt x)) (by simp [hx])
    rwa [Addr.add_lit] at this
theorem Tx.kept {W W' : World} {v : Value} {xs : List (List UInt8)} (h : Tx W v xs) (hm : Mod No W W') : Tx W' v xs :=
  ⟨h.1, fun i x hx => by
    obtain ⟨b, off, cap, e, hc⟩ := h.2 i x hx
    exact ⟨b, off, cap, e, (World.cell?_of_block (w := W) (hm.block b (World.block_lt_of_cell? W _ hc) (fun q => q))).trans hc⟩⟩
theorem Tx.at_ {W : World} {g : Option Addr} {n cap : Nat} {xs : List (List UInt8)} (h : Tx W (.slice g n cap) xs) {i : Nat} {x : List UInt8} (hx : xs[i]? = some x) : ∃ b off, g = some ⟨b, off, none⟩ ∧ W.cell? ⟨b, off + i, none⟩ = some (.string (txt x)) := by
  obtain ⟨b, off, c, e, hc⟩ := h.2 i x hx
  cases e
  exact ⟨b, off, rfl, hc⟩

theorem isPre_len : ∀ (a b : List (List UInt8)), isPre a b = true → a.length ≤ b.length
  | [], _, _ => Nat.zero_le _
  | x :: a, [], h => by simp [isPre] at h
  | x :: a, y :: b, h => by
    simp only [isPre, Bool.and_eq_true] at h
    have := isPre_len a b h.2
    simp only [List.length_cons]; omega
theorem isPre_at {a b : List (List UInt8)} {i : Nat} {x y : List UInt8} (hx : a[i]? = some x) (hy : b[i]? = some y) : isPre (a.drop i) (b.drop i) = (x == y && isPre (a.drop (i + 1)) (b.drop (i + 1))) := by
  obtain ⟨h1, rfl⟩ := List.getElem?_eq_some_iff.1 hx
  obtain ⟨h2, rfl⟩ := List.getElem?_eq_some_iff.1 hy
  rw [List.drop_eq_getElem_cons h1, List.drop_eq_getElem_cons h2, isPre]

theorem txt_ne {x y : List UInt8} (h : x ≠ y) : ((txt x).toList == (txt y).toList) = false := by
  rw [Lib.toList_data, Lib.toList_data, txt_toList, txt_toList]
  exact beq_eq_false_iff_ne.2 h

set_option maxHeartbeats 4000000 in
theorem runder_any (a b : ByteArray) (w : World) :
    Calls Tryd.prog 12 #[.string a, .string b] w fun e w' => e = .returned (.bool (underR a.data.toList b.data.toList)) ∧ Mod No w w' := by
  have HPA := Lib.hid (fun w' => rparse_any a w')
  have HPB := Lib.hid (fun w' => rparse_any b w')
  have hla : (parseR a.data.toList).2.2 = 0 → (parseR a.data.toList).1.length ≤ 8 := fun h => (parse_ok h).2.2.1
  unfold underR
  unfold ParsePost at HPA HPB
  generalize parseR a.data.toList = ra at HPA hla ⊢
  generalize parseR b.data.toList = rb at HPB ⊢
  obtain ⟨na, xa, ea⟩ := ra
  obtain ⟨nb, xb, eb⟩ := rb
  dsimp only at HPA HPB hla ⊢
  have hgo : ∀ (hea : ea ≠ 0 ∨ eb ≠ 0), (decide (ea = 0) && (decide (eb = 0) && isPre na nb)) = false := fun h => by
    rcases h with h | h <;> simp [h]
  by_cases h1 : ea = 0
  · by_cases h2 : eb = 0
    · have d1 : ((ea : Int) != 0) = false := by rw [h1]; rfl
      have d2 : ((eb : Int) != 0) = false := by rw [h2]; rfl
      have hres : (decide (ea = 0) && (decide (eb = 0) && isPre na nb)) = isPre na nb := by simp [h1, h2]
      rw [hres]
      have hla := hla h1
      clear h1 h2 hgo hres
      by_cases hlen : nb.length < na.length
      · have hu : isPre na nb = false := by
          cases h : isPre na nb with
          | false => rfl
          | true => have := isPre_len _ _ h; omega
        rw [hu]
        clear hu
        go_enter Tryd.func12, Tryd.ntmps12
        go_wp2_with fail
        refine (HPA.out _).mono ?_
        rintro e w2 ⟨va, rfl, hb2, hr2⟩
        obtain ⟨ga, ca, rfl⟩ := owns_sl hr2
        have HB2 := Lib.hid hb2
        clear hr2
        go_wp2_with fail
        refine (HPB.out _).mono ?_
        rintro e w3 ⟨vb, rfl, hb3, hr3⟩
        obtain ⟨gb, cb, rfl⟩ := owns_sl hr3
        have HM : Hid (Mod No w w3) := (Mod.of_below HB2.out).trans (Mod.of_below hb3)
        clear hb2 hb3 hr3
        go_wp2_with fail
        go_ret
        exact ⟨rfl, HM.out⟩
      · have HU0 : Hid (isPre na nb = isPre (na.drop 0) (nb.drop 0)) := rfl
        go_enter Tryd.func12, Tryd.ntmps12
        go_wp2_with fail
        refine (HPA.out _).mono ?_
        rintro e w2 ⟨va, rfl, hb2, hr2⟩
        have hta := tx_own hr2
        have HB2 := Lib.hid hb2
        clear hr2
        go_wp2_with fail
        refine (HPB.out _).mono ?_
        rintro e w3 ⟨vb, rfl, hb3, hr3⟩
        have hta3 := hta.kept (Mod.of_below hb3)
        have htb := tx_own hr3
        obtain ⟨ga, ca, rfl⟩ := hta.1
        obtain ⟨gb, cb, rfl⟩ := htb.1
        have HM : Hid (Mod No w w3) := (Mod.of_below HB2.out).trans (Mod.of_below hb3)
        have HTA := Lib.hid hta3
        have HTB := Lib.hid htb
        clear hb2 hb3 hr3 hta hta3 htb
        go_wp2_with fail
        go_loopw [11] (fun vi wr => ∃ i : Nat, vi = .int .i64 i ∧ i ≤ na.length ∧ isPre na nb = isPre (na.drop i) (nb.drop i) ∧ Mod No w3 wr) (fun vi _ => na.length - (intOf vi).toNat)
        case atStart => exact ⟨0, rfl, Nat.zero_le _, HU0.out, Mod.refl _ _⟩
        case round =>
          obtain ⟨i, rfl, hi, hsc, hm⟩ := hrel
          have hi8 : (i : Int) ≤ 8 := by omega
          by_cases hlt : i < na.length
          · have hltb : i < nb.length := by omega
            have hlt' : (i : Int) < na.length := by omega
            have hltb' : (i : Int) < nb.length := by omega
            obtain ⟨x, hx⟩ : ∃ x, na[i]? = some x := ⟨_, List.getElem?_eq_getElem hlt⟩
            obtain ⟨y, hy⟩ : ∃ y, nb[i]? = some y := ⟨_, List.getElem?_eq_getElem hltb⟩
            obtain ⟨ba, oa, rfl, ha⟩ := (HTA.out.kept hm).at_ hx
            obtain ⟨bb, ob, rfl, hb⟩ := (HTB.out.kept hm).at_ hy
            rw [isPre_at hx hy] at hsc
            have HMW := Lib.hid hm.drew
            have HMD := Lib.hid (HM.out.trans hm).drew
            by_cases hxy : x = y
            · subst hxy
              rw [beq_self_eq_true, Bool.true_and] at hsc
              have HSC := Lib.hid hsc
              clear hsc hm hx hy hlen hi
              go_wp2_with fail
              go_region
              all_goals (
                go_wp2_with fail
                go_roundw
                case rel => exact ⟨i + 1, by go_num, by omega, HSC.out, HMW.out⟩
                case measure => simp [intOf]; omega)
            · rw [show (x == y) = false from beq_eq_false_iff_ne.2 hxy, Bool.false_and] at hsc
              have hne := txt_ne hxy
              have HSC := Lib.hid hsc
              clear hsc hm hx hy hlen hi hxy
              go_wp2_with fail
              go_region
              all_goals (
                go_wp2_with fail
                go_ret
                rw [HSC.out]
                exact ⟨rfl, HMD.out⟩)
          · have hlt' : ¬ (i : Int) < na.length := by omega
            have hn : na.drop i = [] := List.drop_of_length_le (by omega)
            rw [hn] at hsc
            have HSC : Hid (isPre na nb = true) := hsc
            clear hsc hn
            go_wp2_with fail
            go_ret
            rw [HSC.out]
            exact ⟨rfl, HM.out.trans hm⟩
    · have d1 : ((ea : Int) != 0) = false := by rw [h1]; rfl
      have d2 : ((eb : Int) != 0) = true := bne_iff_ne.2 (by omega)
      rw [hgo (.inr h2)]
      clear hgo h1 h2
      go_enter Tryd.func12, Tryd.ntmps12
      go_wp2_with fail
      refine (HPA.out _).mono ?_
      rintro e w2 ⟨va, rfl, hb2, _⟩
      have HB2 := Lib.hid hb2
      go_wp2_with fail
      refine (HPB.out _).mono ?_
      rintro e w3 ⟨vb, rfl, hb3, _⟩
      have HM : Hid (Mod No w w3) := (Mod.of_below HB2.out).trans (Mod.of_below hb3)
      clear hb2 hb3
      go_wp2
      go_ret
      exact ⟨rfl, HM.out⟩
  · have d1 : ((ea : Int) != 0) = true := bne_iff_ne.2 (by omega)
    rw [hgo (.inl h1)]
    clear hgo h1
    go_enter Tryd.func12, Tryd.ntmps12
    go_wp2_with fail
    refine (HPA.out _).mono ?_
    rintro e w2 ⟨va, rfl, hb2, _⟩
    have HB2 := Lib.hid hb2
    go_wp2_with fail
    refine (HPB.out _).mono ?_
    rintro e w3 ⟨vb, rfl, hb3, _⟩
    have HM : Hid (Mod No w w3) := (Mod.of_below HB2.out).trans (Mod.of_below hb3)
    clear hb2 hb3
    go_wp2
    go_ret
    exact ⟨rfl, HM.out⟩

end Go.Proofs.YthchkhfnhhpleaaDoor
