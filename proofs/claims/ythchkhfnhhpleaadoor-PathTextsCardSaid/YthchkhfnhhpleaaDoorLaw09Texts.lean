/- PathTexts: permissions as text; the walk. -/
import Derived.Test.YthchkhfnhhpleaaDoorRefText
import Derived.Test.YthchkhfnhhpleaaDoorPmRow
import Derived.Test.YthchkhfnhhpleaaDoorLaw09Under
namespace Go.Proofs.YthchkhfnhhpleaaDoor
open Go.RowKit Go.Shelf
set_option maxRecDepth 100000

theorem texts_any (p : Option Addr) (l : List Pm) (cap : Nat) (w : World) (h : PmS w p l) (hc : l.length ≤ cap ∧ (p = none → cap = 0)) (hsz : l.length * 16 ≤ 140737488355328) :
    Calls Tryd.prog 9 #[.slice p l.length cap] w fun e w' => e = .returned (.bool true) ∧ Mod No w w' := by
  have HA := Lib.hid (fun p' cap' w' (h' : PmS w' p' l) (hc' : l.length ≤ cap') => ptext_any p' l cap' w' h' hc')
  have HB := Lib.hid (fun w' (hm : Mod No w w') => rtext_any p l cap w' (h.kept hm) hc.1)
  have H := Lib.hid h
  have HN := Lib.hid hc.2
  clear h hc
  generalize textR l = r at HA HB
  obtain ⟨x, e⟩ := r
  dsimp only at HA HB
  generalize txt x = xt at HA HB
  go_enter Tryd.func9, Tryd.ntmps9
  go_wp2_with (at_builtin; refine append_perms rfl _ _ rfl l p cap rfl rfl H.out hsz HN.out ?_; intro p' cap' w1 hc1 ht1 hm1; have HT1 := Lib.hid ht1; have HM1 := Lib.hid hm1; have HC1 := Lib.hid hc1; clear hc1 ht1 hm1)
  refine (HA.out p' cap' w1 HT1.out HC1.out).mono ?_
  rintro e w2 ⟨rfl, hm2⟩
  have HM2 := Lib.hid (HM1.out.trans hm2)
  clear hm2
  go_wp2_with fail
  refine (HB.out _ HM2.out).mono ?_
  rintro e w3 ⟨rfl, hm3⟩
  have HM3 := Lib.hid (HM2.out.trans hm3)
  clear hm3
  go_wp2_with fail
  refine (awake_yes _).mono ?_
  rintro e w4 ⟨rfl, hm4⟩
  have HM4 := Lib.hid (HM3.out.trans hm4)
  clear hm4
  go_wp2
  go_ret
  exact ⟨rfl, HM4.out⟩

end Go.Proofs.YthchkhfnhhpleaaDoor
