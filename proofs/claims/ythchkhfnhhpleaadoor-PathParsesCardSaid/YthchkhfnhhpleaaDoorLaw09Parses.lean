/- PathParses: every text is a path, or is refused at its first fault; the walk. -/
import Derived.Test.YthchkhfnhhpleaaDoorRefUnder
namespace Go.Proofs.YthchkhfnhhpleaaDoor
open Go.RowKit Go.Shelf
set_option maxRecDepth 100000

set_option maxHeartbeats 4000000 in
/-- Two lists of the same texts. -/
theorem texts_same (va vb : Value) (xs : List (List UInt8)) (w : World) (ha : Tx w va xs) (hb : Tx w vb xs) (h8 : xs.length ≤ 8) :
    Calls Tryd.prog 18 #[va, vb] w fun e w' => e = .returned (.bool true) ∧ Mod No w w' := by
  obtain ⟨ga, ca, rfl⟩ := ha.1
  obtain ⟨gb, cb, rfl⟩ := hb.1
  have HTA := Lib.hid ha
  have HTB := Lib.hid hb
  clear ha hb
  go_enter Tryd.func18, Tryd.ntmps18
  go_wp2_with fail
  go_loopw [5] (fun vi wr => ∃ i : Nat, vi = .int .i64 i ∧ i ≤ xs.length ∧ Mod No w wr) (fun vi _ => xs.length - (intOf vi).toNat)
  case atStart => exact ⟨0, rfl, Nat.zero_le _, Mod.refl _ _⟩
  case round =>
    obtain ⟨i, rfl, hi, hm⟩ := hrel
    have hi8 : (i : Int) ≤ 8 := by omega
    by_cases hlt : i < xs.length
    · have hlt' : (i : Int) < xs.length := by omega
      obtain ⟨x, hx⟩ : ∃ x, xs[i]? = some x := ⟨_, List.getElem?_eq_getElem hlt⟩
      obtain ⟨ba, oa, rfl, ha⟩ := (HTA.out.kept hm).at_ hx
      obtain ⟨bb, ob, rfl, hb⟩ := (HTB.out.kept hm).at_ hx
      have HMW := Lib.hid hm.drew
      clear hm hx hi
      go_wp2_with fail
      go_region
      all_goals (
        go_wp2_with fail
        go_roundw
        case rel => exact ⟨i + 1, by go_num, by omega, HMW.out⟩
        case measure => simp [intOf]; omega)
    · have hlt' : ¬ (i : Int) < xs.length := by omega
      go_wp2_with fail
      go_ret
      exact ⟨rfl, hm⟩

theorem parses_any (s : ByteArray) (w : World) (hs : s.size ≤ 140737488355328) : Calls Tryd.prog 6 #[.string s] w fun e w' => e = .returned (.bool true) ∧ Mod No w w' := by
  have HA := Lib.hid (fun w' => parse_any s w' hs)
  have HB := Lib.hid (fun w' => rparse_any s w')
  have h8 : (parseR s.data.toList).1.length ≤ 8 := by
    by_cases h : (parseR s.data.toList).2.2 = 0
    · exact (parse_ok h).2.2.1
    · revert h
      unfold parseR
      split
      · intro _; simp
      · split
        · intro _; simp
        · split
          · split
            · intro _; simp
            · split
              · intro h; exact absurd rfl h
              · intro _; simp
          · intro _; simp
  unfold ParsePost at HA HB
  generalize parseR s.data.toList = r at HA HB h8
  obtain ⟨xs, a, e⟩ := r
  dsimp only at HA HB h8
  have H8 := Lib.hid h8
  clear h8 hs
  go_enter Tryd.func6, Tryd.ntmps6
  go_wp2_with fail
  refine (HA.out _).mono ?_
  rintro e w2 ⟨va, rfl, hb2, hr2⟩
  have hta := Lib.hid (tx_own hr2)
  have HM2 : Hid (Mod No w w2) := Mod.of_below hb2
  clear hb2 hr2
  go_wp2_with fail
  refine (HB.out _).mono ?_
  rintro e w3 ⟨vb, rfl, hb3, hr3⟩
  have HT := Lib.hid (texts_same va vb xs w3 (hta.out.kept (Mod.of_below hb3)) (tx_own hr3) H8.out)
  have HM3 : Hid (Mod No w w3) := HM2.out.trans (Mod.of_below hb3)
  clear hb3 hr3
  go_wp2_with fail
  refine HT.out.mono ?_
  rintro e w4 ⟨rfl, hm4⟩
  have HM4 := Lib.hid (HM3.out.trans hm4)
  clear hm4
  go_wp2_with fail
  refine (awake_yes _).mono ?_
  rintro e w5 ⟨rfl, hm5⟩
  have HM5 := Lib.hid (HM4.out.trans hm5)
  clear hm5
  go_wp2
  go_ret
  exact ⟨rfl, HM5.out⟩

end Go.Proofs.YthchkhfnhhpleaaDoor
