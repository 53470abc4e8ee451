/- PathUnder: which paths lie under which; the walk. -/
import Derived.Test.YthchkhfnhhpleaaDoorRefUnder
namespace Go.Proofs.YthchkhfnhhpleaaDoor
open Go.RowKit Go.Shelf
set_option maxRecDepth 100000

theorem unders_any (a b : ByteArray) (w : World) (ha : a.size ≤ 140737488355328) (hb : b.size ≤ 140737488355328) : Calls Tryd.prog 3 #[.string a, .string b] w fun e w' => e = .returned (.bool true) ∧ Mod No w w' := by
  have HA := Lib.hid (fun w' => under_any a b w' ha hb)
  have HB := Lib.hid (fun w' => runder_any a b w')
  generalize underR a.data.toList b.data.toList = r at HA HB
  clear ha hb
  cases r
  all_goals (
    go_enter Tryd.func3, Tryd.ntmps3
    go_wp2_with fail
    refine (HA.out _).mono ?_
    rintro e w2 ⟨rfl, hm2⟩
    have HM2 := Lib.hid hm2
    clear hm2
    go_wp2_with fail
    refine (HB.out _).mono ?_
    rintro e w3 ⟨rfl, hm3⟩
    have HM3 := Lib.hid (HM2.out.trans hm3)
    clear hm3
    go_wp2_with fail
    refine (awake_yes _).mono ?_
    rintro e w4 ⟨rfl, hm4⟩
    have HM4 := Lib.hid (HM3.out.trans hm4)
    clear hm4
    go_wp2
    go_ret
    exact ⟨rfl, HM4.out⟩)

end Go.Proofs.YthchkhfnhhpleaaDoor
