/- path.Parse at every text; path.Under; awake. -/
import Derived.Test.YthchkhfnhhpleaaDoorPathParse3
namespace Go.Proofs.YthchkhfnhhpleaaDoor
open Go.RowKit Go.Shelf
set_option maxRecDepth 100000

theorem parse_any (s : ByteArray) (w : World) (hs : s.size ≤ 140737488355328) : Calls Tryd.prog 14 #[.string s] w (ParsePost s.data.toList w) := by
  rw [show s = txt s.data.toList from (txt_of s).symm]
  have hl : s.data.toList.length = s.size := by simp
  generalize s.data.toList = L at hl
  rw [txt_toList]
  by_cases h1 : 256 < L.length
  · exact parse_long L w (by omega) h1
  · match L, h1 with
    | [], h1 => exact parse_other [] w (by simp) rfl rfl
    | c :: l, h1 =>
      by_cases hc : c = 47
      · subst hc
        by_cases hl2 : l = []
        · subst hl2
          exact parse_root w
        · exact parse_names l hl2 (by simp only [List.length_cons] at h1; omega) w
      · refine parse_other (c :: l) w (by omega) ?_ ?_
        · rw [hasPrefix_one]
          simpa using fun e : 47 = c => hc e.symm
        · unfold parseR
          rw [if_neg h1]
          dsimp only
          rw [if_neg hc]

theorem trim_eq (l : List UInt8) : Lib.trimSuffix l [47] = trimmed l := by
  unfold Lib.trimSuffix trimmed Lib.hasSuffix
  rcases List.eq_nil_or_concat l with rfl | ⟨m, c, rfl⟩
  · rfl
  · have e1 : [47].isSuffixOf (m.concat c) = ((47 : UInt8) == c) := by
      simp [List.isSuffixOf, List.isPrefixOf]
    rw [e1]
    have e2 : (m.concat c).getLast? = some c := by simp
    rw [e2]
    by_cases hc : c = 47
    · subst hc
      simp
    · rw [if_neg (by simpa using fun e : 47 = c => hc e.symm), if_neg (fun e => hc (Option.some.inj e))]

/-- What the code asks of two texts. -/
def underT (a b : List UInt8) : Bool := Lib.hasPrefix b (Lib.trimSuffix a [47]) && edge (Lib.trimPrefix b (Lib.trimSuffix a [47]))
theorem underT_eq {a b : List UInt8} (ha : (parseR a).2.2 = 0) (hb : (parseR b).2.2 = 0) : underT a b = isPre (parseR a).1 (parseR b).1 := by
  obtain ⟨a1, a2, _⟩ := parse_ok ha
  obtain ⟨b1, b2, _⟩ := parse_ok hb
  have hu := under_text (parseR a).1 (parseR b).1 a2 b2
  rw [← b1] at hu
  have ht : Lib.trimSuffix a [47] = strokes (parseR a).1 := by rw [trim_eq, a1, trimmed_path _ a2, ← a1]
  unfold underT
  rw [ht, Bool.eq_iff_iff, hu, Bool.and_eq_true]
  unfold Lib.trimPrefix Lib.hasPrefix
  constructor
  · rintro ⟨h1, h2⟩
    rw [if_pos h1] at h2
    obtain ⟨r, hr⟩ := List.isPrefixOf_iff_prefix.1 h1
    refine ⟨r, hr.symm, ?_⟩
    rw [← hr, List.drop_left] at h2
    exact h2
  · rintro ⟨r, hr, he⟩
    have h1 : (strokes (parseR a).1).isPrefixOf b = true := List.isPrefixOf_iff_prefix.2 ⟨r, hr.symm⟩
    refine ⟨h1, ?_⟩
    rw [if_pos h1, hr, List.drop_left]
    exact he

theorem edge_nil {l : List UInt8} (h : l = []) : edge l = true := by rw [h]; rfl

set_option maxHeartbeats 4000000 in
theorem under_any (a b : ByteArray) (w : World) (ha : a.size ≤ 140737488355328) (hb : b.size ≤ 140737488355328) :
    Calls Tryd.prog 11 #[.string a, .string b] w fun e w' => e = .returned (.bool (underR a.data.toList b.data.toList)) ∧ Mod No w w' := by
  have HPA := Lib.hid (fun w' => parse_any a w' ha)
  have HPB := Lib.hid (fun w' => parse_any b w' hb)
  have htr := fun w' => Tryd.strings_TrimSuffix a ⟨#[47]⟩ w' (by omega)
  have hcp := fun w' => Tryd.strings_CutPrefix b ⟨(Lib.trimSuffix a.data.toList [47]).toArray⟩ w'
  rw [show (⟨#[47]⟩ : ByteArray).data.toList = [47] from rfl] at htr
  rw [show (⟨(Lib.trimSuffix a.data.toList [47]).toArray⟩ : ByteArray).data.toList = Lib.trimSuffix a.data.toList [47] from rfl] at hcp
  have hun : underR a.data.toList b.data.toList = (decide ((parseR a.data.toList).2.2 = 0) && (decide ((parseR b.data.toList).2.2 = 0) && underT a.data.toList b.data.toList)) := by
    unfold underR
    by_cases h1 : (parseR a.data.toList).2.2 = 0
    · by_cases h2 : (parseR b.data.toList).2.2 = 0
      · rw [underT_eq h1 h2]
      · simp [h2]
    · simp [h1]
  have hut : underT a.data.toList b.data.toList = (Lib.hasPrefix b.data.toList (Lib.trimSuffix a.data.toList [47]) && edge (Lib.trimPrefix b.data.toList (Lib.trimSuffix a.data.toList [47]))) := rfl
  generalize underT a.data.toList b.data.toList = ut at hun hut
  rw [hun]
  generalize Lib.trimSuffix a.data.toList [47] = ta at htr hcp hut
  generalize Lib.hasPrefix b.data.toList ta = hp at hcp hut
  generalize Lib.trimPrefix b.data.toList ta = tp at hcp hut
  have HTR := Lib.hid htr
  have HCP := Lib.hid hcp
  have HUT := Lib.hid hut
  unfold ParsePost at HPA HPB
  generalize parseR a.data.toList = ra at HPA ⊢
  generalize parseR b.data.toList = rb at HPB ⊢
  obtain ⟨na, xa, ea⟩ := ra
  obtain ⟨nb, xb, eb⟩ := rb
  dsimp only at HPA HPB ⊢
  clear htr hcp hut hun ha hb
  have hgo : ∀ (hea : ea ≠ 0 ∨ eb ≠ 0), (decide (ea = 0) && (decide (eb = 0) && ut)) = false := fun h => by
    rcases h with h | h <;> simp [h]
  by_cases h1 : ea = 0
  · by_cases h2 : eb = 0
    · have d1 : ((ea : Int) != 0) = false := by rw [h1]; rfl
      have d2 : ((eb : Int) != 0) = false := by rw [h2]; rfl
      have hres : (decide (ea = 0) && (decide (eb = 0) && ut)) = ut := by simp [h1, h2]
      rw [hres]
      have HA : Hid (∀ (w' : World), Calls Tryd.prog 27 #[.string a, .string ⟨#[47]⟩] w' fun e w'' => e = .returned (.string ⟨ta.toArray⟩) ∧ w'' = w') := HTR
      clear h1 h2 hgo hres HTR
      cases hp with
      | false =>
        have hu : ut = false := by rw [HUT.out]; rfl
        subst hu
        go_enter Tryd.func11, Tryd.ntmps11
        go_wp2_with fail
        refine (HPA.out _).mono ?_
        rintro e w2 ⟨va, rfl, hb2, _⟩
        have HB2 := Lib.hid hb2
        go_wp2_with fail
        refine (HPB.out _).mono ?_
        rintro e w3 ⟨vb, rfl, hb3, _⟩
        have HM : Hid (Mod No w w3) := (Mod.of_below HB2.out).trans (Mod.of_below hb3)
        clear hb2 hb3
        go_wp2_with (first | (go_at_call 27; refine (HA.out _).mono ?_; rintro e w' ⟨rfl, rfl⟩) | (go_at_call 26; refine (HCP.out _).mono ?_; rintro e w' ⟨rfl, rfl⟩))
        go_ret
        exact ⟨rfl, HM.out⟩
      | true =>
        match tp, HUT, HCP with
        | [], HUT, HCP =>
          have hu : ut = true := by rw [HUT.out]; rfl
          subst hu
          have HCP : Hid (∀ (w' : World), Calls Tryd.prog 26 #[.string b, .string ⟨ta.toArray⟩] w' fun e w'' => e = .returned (.tuple #[.string ⟨#[]⟩, .bool true]) ∧ w'' = w') := HCP
          go_enter Tryd.func11, Tryd.ntmps11
          go_wp2_with fail
          refine (HPA.out _).mono ?_
          rintro e w2 ⟨va, rfl, hb2, _⟩
          have HB2 := Lib.hid hb2
          go_wp2_with fail
          refine (HPB.out _).mono ?_
          rintro e w3 ⟨vb, rfl, hb3, _⟩
          have HM : Hid (Mod No w w3) := (Mod.of_below HB2.out).trans (Mod.of_below hb3)
          clear hb2 hb3
          go_wp2_with (first | (go_at_call 27; refine (HA.out _).mono ?_; rintro e w' ⟨rfl, rfl⟩) | (go_at_call 26; refine (HCP.out _).mono ?_; rintro e w' ⟨rfl, rfl⟩))
          go_ret
          exact ⟨rfl, HM.out⟩
        | c :: r, HUT, HCP =>
          have hs0 : (txt (c :: r)).size = r.length + 1 := by show (c :: r).toArray.size = _; simp
          have hse : (txt (c :: r)).toList.isEmpty = false := by rw [toList_emp, hs0]; simp
          have hlt : (0 : Int) < (r.length : Int) + 1 := by omega
          have h0 : ∀ h, (txt (c :: r))[0]'h = c := fun h => rfl
          have HCP : Hid (∀ (w' : World), Calls Tryd.prog 26 #[.string b, .string ⟨ta.toArray⟩] w' fun e w'' => e = .returned (.tuple #[.string (txt (c :: r)), .bool true]) ∧ w'' = w') := HCP
          by_cases hc : c = 47
          · have hu : ut = true := by rw [HUT.out, hc]; rfl
            have d0 : ((c.toNat : Int) == 47) = true := by rw [hc]; rfl
            subst hu
            clear hc
            go_enter Tryd.func11, Tryd.ntmps11
            go_wp2_with fail
            refine (HPA.out _).mono ?_
            rintro e w2 ⟨va, rfl, hb2, _⟩
            have HB2 := Lib.hid hb2
            go_wp2_with fail
            refine (HPB.out _).mono ?_
            rintro e w3 ⟨vb, rfl, hb3, _⟩
            have HM : Hid (Mod No w w3) := (Mod.of_below HB2.out).trans (Mod.of_below hb3)
            clear hb2 hb3
            go_wp2_with (first | (go_at_call 27; refine (HA.out _).mono ?_; rintro e w' ⟨rfl, rfl⟩) | (go_at_call 26; refine (HCP.out _).mono ?_; rintro e w' ⟨rfl, rfl⟩))
            go_ret
            exact ⟨rfl, HM.out⟩
          · have hu : ut = false := by rw [HUT.out]; show (true && (c == 47)) = false; simpa using hc
            have d0 : ((c.toNat : Int) == 47) = false := beq_eq_false_iff_ne.2 (fun e => hc (UInt8.toNat_inj.1 (by show c.toNat = 47; omega)))
            subst hu
            clear hc
            go_enter Tryd.func11, Tryd.ntmps11
            go_wp2_with fail
            refine (HPA.out _).mono ?_
            rintro e w2 ⟨va, rfl, hb2, _⟩
            have HB2 := Lib.hid hb2
            go_wp2_with fail
            refine (HPB.out _).mono ?_
            rintro e w3 ⟨vb, rfl, hb3, _⟩
            have HM : Hid (Mod No w w3) := (Mod.of_below HB2.out).trans (Mod.of_below hb3)
            clear hb2 hb3
            go_wp2_with (first | (go_at_call 27; refine (HA.out _).mono ?_; rintro e w' ⟨rfl, rfl⟩) | (go_at_call 26; refine (HCP.out _).mono ?_; rintro e w' ⟨rfl, rfl⟩))
            go_ret
            exact ⟨rfl, HM.out⟩
    · have d1 : ((ea : Int) != 0) = false := by rw [h1]; rfl
      have d2 : ((eb : Int) != 0) = true := bne_iff_ne.2 (by omega)
      rw [hgo (.inr h2)]
      clear hgo h1 h2
      go_enter Tryd.func11, Tryd.ntmps11
      go_wp2_with fail
      refine (HPA.out _).mono ?_
      rintro e w2 ⟨va, rfl, hb2, _⟩
      have HB2 := Lib.hid hb2
      go_wp2_with fail
      refine (HPB.out _).mono ?_
      rintro e w3 ⟨vb, rfl, hb3, _⟩
      have HM : Hid (Mod No w w3) := (Mod.of_below HB2.out).trans (Mod.of_below hb3)
      clear hb2 hb3
      go_wp2
      go_ret
      exact ⟨rfl, HM.out⟩
  · have d1 : ((ea : Int) != 0) = true := bne_iff_ne.2 (by omega)
    rw [hgo (.inl h1)]
    clear hgo h1
    go_enter Tryd.func11, Tryd.ntmps11
    go_wp2_with fail
    refine (HPA.out _).mono ?_
    rintro e w2 ⟨va, rfl, hb2, _⟩
    have HB2 := Lib.hid hb2
    go_wp2_with fail
    refine (HPB.out _).mono ?_
    rintro e w3 ⟨vb, rfl, hb3, _⟩
    have HM : Hid (Mod No w w3) := (Mod.of_below HB2.out).trans (Mod.of_below hb3)
    clear hb2 hb3
    go_wp2
    go_ret
    exact ⟨rfl, HM.out⟩

theorem awake_yes (w : World) : Calls Tryd.prog 13 #[] w fun e w' => e = .returned (.bool true) ∧ Mod No w w' := by
  have h1 := fun w' => under_any ⟨#[47, 97]⟩ ⟨#[47, 97, 47, 98]⟩ w' (by decide) (by decide)
  have h2 := fun w' => under_any ⟨#[47, 97]⟩ ⟨#[47, 97, 98]⟩ w' (by decide) (by decide)
  rw [show underR (⟨#[47, 97]⟩ : ByteArray).data.toList (⟨#[47, 97, 47, 98]⟩ : ByteArray).data.toList = true by decide +kernel] at h1
  rw [show underR (⟨#[47, 97]⟩ : ByteArray).data.toList (⟨#[47, 97, 98]⟩ : ByteArray).data.toList = false by decide +kernel] at h2
  have H1 := Lib.hid h1
  have H2 := Lib.hid h2
  clear h1 h2
  go_enter Tryd.func13, Tryd.ntmps13
  go_wp2_with fail
  refine (H1.out _).mono ?_
  rintro e w2 ⟨rfl, hm2⟩
  have HM2 := Lib.hid hm2
  clear hm2
  go_wp2_with fail
  refine (H2.out _).mono ?_
  rintro e w3 ⟨rfl, hm3⟩
  have HM3 := Lib.hid (HM2.out.trans hm3)
  clear hm3
  go_wp2
  go_ret
  exact ⟨rfl, HM3.out⟩

end Go.Proofs.YthchkhfnhhpleaaDoor
