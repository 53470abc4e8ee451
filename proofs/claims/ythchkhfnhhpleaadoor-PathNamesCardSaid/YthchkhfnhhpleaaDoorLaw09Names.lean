/- PathNames: every text is a name, or is refused at its first fault; the walk. -/
import Derived.Test.YthchkhfnhhpleaaDoorPathUnder
namespace Go.Proofs.YthchkhfnhhpleaaDoor
open Go.RowKit Go.Shelf
set_option maxRecDepth 100000

theorem names_any (s : ByteArray) (w : World) (hs : s.size ≤ 140737488355328) : Calls Tryd.prog 5 #[.string s] w fun e w' => e = .returned (.bool true) ∧ Mod No w w' := by
  have HA := Lib.hid (fun w' => name_any s w' hs)
  have HB := Lib.hid (fun w' => rname_any s w' hs)
  generalize nameR s.data.toList = r at HA HB
  obtain ⟨a, e⟩ := r
  dsimp only at HA HB
  go_enter Tryd.func5, Tryd.ntmps5
  go_wp2_with fail
  refine (HA.out _).mono ?_
  rintro e w2 ⟨rfl, hm2⟩
  have HM2 := Lib.hid hm2
  clear hm2
  go_wp2_with fail
  refine (HB.out _).mono ?_
  rintro e w3 ⟨rfl, rfl⟩
  go_wp2_with fail
  refine (awake_yes _).mono ?_
  rintro e w4 ⟨rfl, hm4⟩
  have HM4 := Lib.hid (HM2.out.trans hm4)
  clear hm4
  go_wp2
  go_ret
  exact ⟨rfl, HM4.out⟩

end Go.Proofs.YthchkhfnhhpleaaDoor
