/- PathBack: there and back; the walk. (Printed by wip/gen_back.py.) -/
import Derived.Test.YthchkhfnhhpleaaDoorPathPerm
import Derived.Test.YthchkhfnhhpleaaDoorPathText
import Derived.Test.YthchkhfnhhpleaaDoorLaw09Joins
import Derived.Test.YthchkhfnhhpleaaDoorLaw09Under
namespace Go.Proofs.YthchkhfnhhpleaaDoor
open Go.RowKit Go.Shelf
set_option maxRecDepth 100000

theorem bytes_same (s : ByteArray) : (s.toList != s.toList) = false := by simp

set_option maxHeartbeats 4000000 in
theorem back_any (s t : ByteArray) (w : World) (hs : s.size ≤ 140737488355328) :
    Calls Tryd.prog 10 #[.string s, .string t] w fun e w' => e = .returned (.bool true) ∧ Mod No w w' := by
  have HA := Lib.hid (fun w' => parse_any s w' hs)
  have HB := Lib.hid (fun w' => perms_any t w')
  have hok := fun h => join_parse (s := s.data.toList) h
  have hnm := fun h => (parse_ok (s := s.data.toList) h).2.1
  unfold ParsePost at HA
  generalize parseR s.data.toList = r at HA hok hnm
  obtain ⟨xs, a, pe⟩ := r
  dsimp only at HA hok hnm
  have ne1 : ((pe : Int) == 0) = decide (pe = 0) := by
    by_cases h : pe = 0
    · rw [h]; rfl
    · rw [decide_eq_false h]; exact beq_eq_false_iff_ne.2 (by omega)
  have bs := bytes_same s
  have bt := bytes_same t
  clear hs
  go_enter Tryd.func10, Tryd.ntmps10
  go_wp2_with fail
  refine (HA.out _).mono ?_
  rintro e w2 ⟨va, rfl, hb2, hr2⟩
  have HM2 : Hid (Mod No w w2) := Mod.of_below hb2
  by_cases hpe : pe = 0
  · have d1 : ((pe : Int) == 0) = true := by rw [hpe]; rfl
    obtain ⟨q, c, rfl, hqc, htx⟩ := txs_own hr2 (fun x hx => by have := (hnm hpe x hx).2.1; omega)
    have HJ := Lib.hid (pjoin_any q xs c w2 htx hqc)
    rw [hok hpe] at HJ
    dsimp only at HJ
    rw [txt_of] at HJ
    clear hb2 hr2 ne1 hok hnm htx hqc hpe
    go_wp2_with fail
    refine HJ.out.mono ?_
    rintro e w3 ⟨rfl, hm3⟩
    have HM3 := Lib.hid (HM2.out.trans hm3)
    clear hm3
    go_wp2_with fail
    refine (HB.out _).mono ?_
    rintro e w4 ⟨vb, n, er, rfl, hm4, hgood⟩
    have HM4 := Lib.hid (HM3.out.trans hm4)
    by_cases her : er = 0
    · obtain ⟨acc, q4, c4, rfl, hq4, hps, htr⟩ := hgood her
      have d2 : (er == 0) = true := by rw [her]; rfl
      have HT := Lib.hid (ptext_any q4 acc c4 w4 hps hq4)
      rw [htr] at HT
      dsimp only at HT
      rw [txt_of] at HT
      clear hgood htr hps hm4 her hq4
      go_wp2_with fail
      refine HT.out.mono ?_
      rintro e w5 ⟨rfl, hm5⟩
      have HM5 := Lib.hid (HM4.out.trans hm5)
      clear hm5
      go_wp2_with fail
      refine (awake_yes _).mono ?_
      rintro e w6 ⟨rfl, hm6⟩
      have HM6 := Lib.hid (HM5.out.trans hm6)
      clear hm6
      go_wp2
      go_ret
      exact ⟨rfl, HM6.out⟩
    · have d2 : (er == 0) = false := beq_eq_false_iff_ne.2 her
      clear hgood hm4 her
      go_wp2_with fail
      refine (awake_yes _).mono ?_
      rintro e w6 ⟨rfl, hm6⟩
      have HM6 := Lib.hid (HM4.out.trans hm6)
      clear hm6
      go_wp2
      go_ret
      exact ⟨rfl, HM6.out⟩
  · have d1 : ((pe : Int) == 0) = false := by rw [ne1]; exact decide_eq_false hpe
    clear hb2 hr2 ne1 hok hnm hpe
    go_wp2_with fail
    refine (HB.out _).mono ?_
    rintro e w4 ⟨vb, n, er, rfl, hm4, hgood⟩
    have HM4 := Lib.hid (HM2.out.trans hm4)
    by_cases her : er = 0
    · obtain ⟨acc, q4, c4, rfl, hq4, hps, htr⟩ := hgood her
      have d2 : (er == 0) = true := by rw [her]; rfl
      have HT := Lib.hid (ptext_any q4 acc c4 w4 hps hq4)
      rw [htr] at HT
      dsimp only at HT
      rw [txt_of] at HT
      clear hgood htr hps hm4 her hq4
      go_wp2_with fail
      refine HT.out.mono ?_
      rintro e w5 ⟨rfl, hm5⟩
      have HM5 := Lib.hid (HM4.out.trans hm5)
      clear hm5
      go_wp2_with fail
      refine (awake_yes _).mono ?_
      rintro e w6 ⟨rfl, hm6⟩
      have HM6 := Lib.hid (HM5.out.trans hm6)
      clear hm6
      go_wp2
      go_ret
      exact ⟨rfl, HM6.out⟩
    · have d2 : (er == 0) = false := beq_eq_false_iff_ne.2 her
      clear hgood hm4 her
      go_wp2_with fail
      refine (awake_yes _).mono ?_
      rintro e w6 ⟨rfl, hm6⟩
      have HM6 := Lib.hid (HM4.out.trans hm6)
      clear hm6
      go_wp2
      go_ret
      exact ⟨rfl, HM6.out⟩

end Go.Proofs.YthchkhfnhhpleaaDoor
