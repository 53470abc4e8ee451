/- PathLeads: under leads on; the walk. -/
import Derived.Test.YthchkhfnhhpleaaDoorPathUnder
namespace Go.Proofs.YthchkhfnhhpleaaDoor
open Go.RowKit Go.Shelf
set_option maxRecDepth 100000

theorem under_self {a : List UInt8} (h : (parseR a).2.2 = 0) : underR a a = true := by
  unfold underR
  rw [isPre_refl]
  simp [h]
theorem under_root {a : List UInt8} (h : (parseR a).2.2 = 0) : underR [47] a = true := by
  unfold underR
  rw [show parseR [47] = ([], 0, 0) from rfl]
  simp [h, isPre]
theorem under_none {a b : List UInt8} (h : (parseR a).2.2 ≠ 0) : underR a b = false ∧ underR b a = false := by
  unfold underR
  constructor <;> simp [h]
theorem under_trans {a b c : List UInt8} (h : underR a b = true) (k : underR b c = true) : underR a c = true := by
  unfold underR at *
  simp only [Bool.and_eq_true, decide_eq_true_eq] at *
  exact ⟨h.1, k.2.1, isPre_trans _ _ _ h.2.2 k.2.2⟩
theorem under_anti {a b : List UInt8} (h : underR a b = true) (k : underR b a = true) : a = b := by
  unfold underR at *
  simp only [Bool.and_eq_true, decide_eq_true_eq] at *
  have e := isPre_anti _ _ h.2.2 k.2.2
  rw [(parse_ok h.1).1, (parse_ok k.1).1, e]

/-- What PathLeads asks of its six answers. -/
structure LeadsP (pe : Nat) (aa ra ab ba bc ac same : Bool) : Prop where
  ok : pe = 0 → aa = true ∧ ra = true
  no : pe ≠ 0 → ab = false ∧ ba = false
  on : ab = true → bc = true → ac = true
  anti : ab = true → ba = true → same = true
theorem leads_p (a b c : List UInt8) (same : Bool) (hs : same = true ↔ a = b) : LeadsP (parseR a).2.2 (underR a a) (underR [47] a) (underR a b) (underR b a) (underR b c) (underR a c) same :=
  ⟨fun h => ⟨under_self h, under_root h⟩, fun h => under_none h, fun h k => under_trans h k, fun h k => hs.2 (under_anti h k)⟩


/-- The calls -/
theorem leads_calls (a b c : ByteArray) (w : World) (pe : Nat) (aa ra ab ba bc ac : Bool) (hp : LeadsP pe aa ra ab ba bc ac (a.toList == b.toList))
    (HPA : Hid (∀ w', Calls Tryd.prog 14 #[.string a] w' fun e w2 => ∃ v, ∃ x : Int, e = .returned (.tuple #[v, .int .i64 x, .int .i64 pe]) ∧ Below w'.heap.size w' w2))
    (HAA : Hid (∀ w', Calls Tryd.prog 11 #[.string a, .string a] w' fun e w2 => e = .returned (.bool aa) ∧ Mod No w' w2))
    (HRA : Hid (∀ w', Calls Tryd.prog 11 #[.string ⟨#[47]⟩, .string a] w' fun e w2 => e = .returned (.bool ra) ∧ Mod No w' w2))
    (HAB : Hid (∀ w', Calls Tryd.prog 11 #[.string a, .string b] w' fun e w2 => e = .returned (.bool ab) ∧ Mod No w' w2))
    (HBA : Hid (∀ w', Calls Tryd.prog 11 #[.string b, .string a] w' fun e w2 => e = .returned (.bool ba) ∧ Mod No w' w2))
    (HBC : Hid (∀ w', Calls Tryd.prog 11 #[.string b, .string c] w' fun e w2 => e = .returned (.bool bc) ∧ Mod No w' w2))
    (HAC : Hid (∀ w', Calls Tryd.prog 11 #[.string a, .string c] w' fun e w2 => e = .returned (.bool ac) ∧ Mod No w' w2)) :
    Calls Tryd.prog 4 #[.string a, .string b, .string c] w fun e w' => e = .returned (.bool true) ∧ Mod No w w' := by
  obtain ⟨hok, hno, hon, hanti⟩ := hp
  by_cases hpe : pe = 0
  · obtain ⟨rfl, rfl⟩ := hok hpe
    have d0 : ((pe : Int) == 0) = true := by rw [hpe]; rfl
    have d1 : ((pe : Int) != 0) = false := by rw [hpe]; rfl
    clear hpe hok hno
    cases ab with
    | false =>
      clear hon hanti
      go_enter Tryd.func4, Tryd.ntmps4
      go_wp2_with fail
      refine (HPA.out _).mono ?_
      rintro e v0 ⟨vl, vx, rfl, hm⟩
      have hm := Mod.of_below (P := No) hm
      have HM0 := Lib.hid hm
      clear hm
      go_wp2_with fail
      refine (HAA.out _).mono ?_
      rintro e v1 ⟨rfl, hm⟩
      have HM1 := Lib.hid (HM0.out.trans hm)
      clear hm
      go_wp2_with fail
      refine (HRA.out _).mono ?_
      rintro e v2 ⟨rfl, hm⟩
      have HM2 := Lib.hid (HM1.out.trans hm)
      clear hm
      go_wp2_with fail
      refine (HAB.out _).mono ?_
      rintro e v3 ⟨rfl, hm⟩
      have HM3 := Lib.hid (HM2.out.trans hm)
      clear hm
      go_wp2_with fail
      refine (HAB.out _).mono ?_
      rintro e v4 ⟨rfl, hm⟩
      have HM4 := Lib.hid (HM3.out.trans hm)
      clear hm
      go_wp2_with fail
      refine (awake_yes _).mono ?_
      rintro e wz ⟨rfl, hm⟩
      have HMz := Lib.hid (HM4.out.trans hm)
      clear hm
      go_wp2
      go_ret
      exact ⟨rfl, HMz.out⟩
    | true =>
      have hon := hon rfl
      have hanti := hanti rfl
      cases bc with
      | false =>
        clear hon
        cases ba with
        | false =>
          clear hanti
          go_enter Tryd.func4, Tryd.ntmps4
          go_wp2_with fail
          refine (HPA.out _).mono ?_
          rintro e v0 ⟨vl, vx, rfl, hm⟩
          have hm := Mod.of_below (P := No) hm
          have HM0 := Lib.hid hm
          clear hm
          go_wp2_with fail
          refine (HAA.out _).mono ?_
          rintro e v1 ⟨rfl, hm⟩
          have HM1 := Lib.hid (HM0.out.trans hm)
          clear hm
          go_wp2_with fail
          refine (HRA.out _).mono ?_
          rintro e v2 ⟨rfl, hm⟩
          have HM2 := Lib.hid (HM1.out.trans hm)
          clear hm
          go_wp2_with fail
          refine (HAB.out _).mono ?_
          rintro e v3 ⟨rfl, hm⟩
          have HM3 := Lib.hid (HM2.out.trans hm)
          clear hm
          go_wp2_with fail
          refine (HBC.out _).mono ?_
          rintro e v4 ⟨rfl, hm⟩
          have HM4 := Lib.hid (HM3.out.trans hm)
          clear hm
          go_wp2_with fail
          refine (HAB.out _).mono ?_
          rintro e v5 ⟨rfl, hm⟩
          have HM5 := Lib.hid (HM4.out.trans hm)
          clear hm
          go_wp2_with fail
          refine (HBA.out _).mono ?_
          rintro e v6 ⟨rfl, hm⟩
          have HM6 := Lib.hid (HM5.out.trans hm)
          clear hm
          go_wp2_with fail
          refine (awake_yes _).mono ?_
          rintro e wz ⟨rfl, hm⟩
          have HMz := Lib.hid (HM6.out.trans hm)
          clear hm
          go_wp2
          go_ret
          exact ⟨rfl, HMz.out⟩
        | true =>
          have hs := hanti rfl
          clear hanti
          go_enter Tryd.func4, Tryd.ntmps4
          go_wp2_with fail
          refine (HPA.out _).mono ?_
          rintro e v0 ⟨vl, vx, rfl, hm⟩
          have hm := Mod.of_below (P := No) hm
          have HM0 := Lib.hid hm
          clear hm
          go_wp2_with fail
          refine (HAA.out _).mono ?_
          rintro e v1 ⟨rfl, hm⟩
          have HM1 := Lib.hid (HM0.out.trans hm)
          clear hm
          go_wp2_with fail
          refine (HRA.out _).mono ?_
          rintro e v2 ⟨rfl, hm⟩
          have HM2 := Lib.hid (HM1.out.trans hm)
          clear hm
          go_wp2_with fail
          refine (HAB.out _).mono ?_
          rintro e v3 ⟨rfl, hm⟩
          have HM3 := Lib.hid (HM2.out.trans hm)
          clear hm
          go_wp2_with fail
          refine (HBC.out _).mono ?_
          rintro e v4 ⟨rfl, hm⟩
          have HM4 := Lib.hid (HM3.out.trans hm)
          clear hm
          go_wp2_with fail
          refine (HAB.out _).mono ?_
          rintro e v5 ⟨rfl, hm⟩
          have HM5 := Lib.hid (HM4.out.trans hm)
          clear hm
          go_wp2_with fail
          refine (HBA.out _).mono ?_
          rintro e v6 ⟨rfl, hm⟩
          have HM6 := Lib.hid (HM5.out.trans hm)
          clear hm
          go_wp2_with fail
          refine (awake_yes _).mono ?_
          rintro e wz ⟨rfl, hm⟩
          have HMz := Lib.hid (HM6.out.trans hm)
          clear hm
          go_wp2
          go_ret
          exact ⟨rfl, HMz.out⟩
      | true =>
        have hac := hon rfl
        subst hac
        clear hon
        cases ba with
        | false =>
          clear hanti
          go_enter Tryd.func4, Tryd.ntmps4
          go_wp2_with fail
          refine (HPA.out _).mono ?_
          rintro e v0 ⟨vl, vx, rfl, hm⟩
          have hm := Mod.of_below (P := No) hm
          have HM0 := Lib.hid hm
          clear hm
          go_wp2_with fail
          refine (HAA.out _).mono ?_
          rintro e v1 ⟨rfl, hm⟩
          have HM1 := Lib.hid (HM0.out.trans hm)
          clear hm
          go_wp2_with fail
          refine (HRA.out _).mono ?_
          rintro e v2 ⟨rfl, hm⟩
          have HM2 := Lib.hid (HM1.out.trans hm)
          clear hm
          go_wp2_with fail
          refine (HAB.out _).mono ?_
          rintro e v3 ⟨rfl, hm⟩
          have HM3 := Lib.hid (HM2.out.trans hm)
          clear hm
          go_wp2_with fail
          refine (HBC.out _).mono ?_
          rintro e v4 ⟨rfl, hm⟩
          have HM4 := Lib.hid (HM3.out.trans hm)
          clear hm
          go_wp2_with fail
          refine (HAC.out _).mono ?_
          rintro e v5 ⟨rfl, hm⟩
          have HM5 := Lib.hid (HM4.out.trans hm)
          clear hm
          go_wp2_with fail
          refine (HAB.out _).mono ?_
          rintro e v6 ⟨rfl, hm⟩
          have HM6 := Lib.hid (HM5.out.trans hm)
          clear hm
          go_wp2_with fail
          refine (HBA.out _).mono ?_
          rintro e v7 ⟨rfl, hm⟩
          have HM7 := Lib.hid (HM6.out.trans hm)
          clear hm
          go_wp2_with fail
          refine (awake_yes _).mono ?_
          rintro e wz ⟨rfl, hm⟩
          have HMz := Lib.hid (HM7.out.trans hm)
          clear hm
          go_wp2
          go_ret
          exact ⟨rfl, HMz.out⟩
        | true =>
          have hs := hanti rfl
          clear hanti
          go_enter Tryd.func4, Tryd.ntmps4
          go_wp2_with fail
          refine (HPA.out _).mono ?_
          rintro e v0 ⟨vl, vx, rfl, hm⟩
          have hm := Mod.of_below (P := No) hm
          have HM0 := Lib.hid hm
          clear hm
          go_wp2_with fail
          refine (HAA.out _).mono ?_
          rintro e v1 ⟨rfl, hm⟩
          have HM1 := Lib.hid (HM0.out.trans hm)
          clear hm
          go_wp2_with fail
          refine (HRA.out _).mono ?_
          rintro e v2 ⟨rfl, hm⟩
          have HM2 := Lib.hid (HM1.out.trans hm)
          clear hm
          go_wp2_with fail
          refine (HAB.out _).mono ?_
          rintro e v3 ⟨rfl, hm⟩
          have HM3 := Lib.hid (HM2.out.trans hm)
          clear hm
          go_wp2_with fail
          refine (HBC.out _).mono ?_
          rintro e v4 ⟨rfl, hm⟩
          have HM4 := Lib.hid (HM3.out.trans hm)
          clear hm
          go_wp2_with fail
          refine (HAC.out _).mono ?_
          rintro e v5 ⟨rfl, hm⟩
          have HM5 := Lib.hid (HM4.out.trans hm)
          clear hm
          go_wp2_with fail
          refine (HAB.out _).mono ?_
          rintro e v6 ⟨rfl, hm⟩
          have HM6 := Lib.hid (HM5.out.trans hm)
          clear hm
          go_wp2_with fail
          refine (HBA.out _).mono ?_
          rintro e v7 ⟨rfl, hm⟩
          have HM7 := Lib.hid (HM6.out.trans hm)
          clear hm
          go_wp2_with fail
          refine (awake_yes _).mono ?_
          rintro e wz ⟨rfl, hm⟩
          have HMz := Lib.hid (HM7.out.trans hm)
          clear hm
          go_wp2
          go_ret
          exact ⟨rfl, HMz.out⟩
  · obtain ⟨rfl, rfl⟩ := hno hpe
    have d0 : ((pe : Int) == 0) = false := beq_eq_false_iff_ne.2 (by omega)
    have d1 : ((pe : Int) != 0) = true := bne_iff_ne.2 (by omega)
    clear hpe hok hno hon hanti
    go_enter Tryd.func4, Tryd.ntmps4
    go_wp2_with fail
    refine (HPA.out _).mono ?_
    rintro e v0 ⟨vl, vx, rfl, hm⟩
    have hm := Mod.of_below (P := No) hm
    have HM0 := Lib.hid hm
    clear hm
    go_wp2_with fail
    refine (HAB.out _).mono ?_
    rintro e v1 ⟨rfl, hm⟩
    have HM1 := Lib.hid (HM0.out.trans hm)
    clear hm
    go_wp2_with fail
    refine (HBA.out _).mono ?_
    rintro e v2 ⟨rfl, hm⟩
    have HM2 := Lib.hid (HM1.out.trans hm)
    clear hm
    go_wp2_with fail
    refine (HAB.out _).mono ?_
    rintro e v3 ⟨rfl, hm⟩
    have HM3 := Lib.hid (HM2.out.trans hm)
    clear hm
    go_wp2_with fail
    refine (HAB.out _).mono ?_
    rintro e v4 ⟨rfl, hm⟩
    have HM4 := Lib.hid (HM3.out.trans hm)
    clear hm
    go_wp2_with fail
    refine (awake_yes _).mono ?_
    rintro e wz ⟨rfl, hm⟩
    have HMz := Lib.hid (HM4.out.trans hm)
    clear hm
    go_wp2
    go_ret
    exact ⟨rfl, HMz.out⟩

theorem leads_any (a b c : ByteArray) (w : World) (ha : a.size ≤ 140737488355328) (hb : b.size ≤ 140737488355328) (hc : c.size ≤ 140737488355328) :
    Calls Tryd.prog 4 #[.string a, .string b, .string c] w fun e w' => e = .returned (.bool true) ∧ Mod No w w' := by
  refine leads_calls a b c w _ _ _ _ _ _ _ (leads_p a.data.toList b.data.toList c.data.toList (a.toList == b.toList) ?_) ?_
    (Lib.hid fun w' => under_any a a w' ha ha) (Lib.hid fun w' => under_any ⟨#[47]⟩ a w' (by decide) ha) (Lib.hid fun w' => under_any a b w' ha hb)
    (Lib.hid fun w' => under_any b a w' hb ha) (Lib.hid fun w' => under_any b c w' hb hc) (Lib.hid fun w' => under_any a c w' ha hc)
  · rw [Lib.toList_data, Lib.toList_data]
    simp
  · refine Lib.hid fun w' => (parse_any a w' ha).mono ?_
    rintro e w2 ⟨v, rfl, hb, _⟩
    exact ⟨v, _, rfl, hb⟩

end Go.Proofs.YthchkhfnhhpleaaDoor
