/- tenementref09.Parse: the names, the walk. -/
import Derived.Test.YthchkhfnhhpleaaDoorRefParse
import Derived.IntWalk
namespace Go.Proofs.YthchkhfnhhpleaaDoor
open Go.RowKit Go.Shelf
set_option maxRecDepth 100000

/-- One name more. -/
theorem more_made {w wr w1 : World} {v v' : Value} {tmp : Obj} {n : Nat} {xs : List Value} {x : Value} (hb : Below w.heap.size w wr) (hrow : wr.ownsRow w.heap.size 9 1 v n xs)
    (_hown' : w1.ownsRow w.heap.size 9 1 v' (n + 1) (xs ++ [x])) (hgrow : (wr.alloc tmp).grownBy w1 v.ownBlock) : Below w.heap.size w w1 :=
  (hb.alloc hb.size tmp).grown hgrow (Nat.le_trans hb.size (by simp)) (fun j e => by have := (hrow.lt j e).1; omega)

set_option maxHeartbeats 8000000 in
theorem rparse_names (l : List UInt8) (hl : l ≠ []) (hlen : l.length ≤ 255) (w : World) :
    Calls Tryd.prog 17 #[.string (txt (47 :: l))] w (ParsePost (47 :: l) w) := by
  have hsz : (txt (47 :: l)).size = l.length + 1 := by show (47 :: l).toArray.size = _; simp
  have hpc := piece_eq l
  have hat : ∀ j (h : j + 1 < (txt (47 :: l)).size), l[j]? = some ((txt (47 :: l))[j + 1]'h) := fun j h => by
    have hj : j < l.length := by omega
    rw [List.getElem?_eq_getElem hj]; rfl
  have h0 : ∀ h, (txt (47 :: l))[0]'h = 47 := fun h => rfl
  have hne : ((txt (47 :: l)).toList == [47]) = false := by
    rw [Lib.toList_data, txt_toList]
    cases l with
    | nil => exact absurd rfl hl
    | cons c l => simp
  have he : (txt (47 :: l)).toList.isEmpty = false := by rw [toList_emp, hsz]; simp
  have HB := Lib.hid (fun a e (h : refGo l 1 1 0 = some (a, e)) => parseR_bad hl hlen h)
  have HG := Lib.hid (fun (h : refGo l 1 1 0 = none) => parseR_fine hl hlen h)
  have hr0 := RP.start l
  generalize txt (47 :: l) = s at hsz hpc hat h0 hne he ⊢
  have d1 : decide ((s.size : Int) > 256) = false := decide_eq_false (by omega)
  have hl0 : (0 : Int) < s.size := by omega
  have HPC := Lib.hid hpc
  have HAT := Lib.hid hat
  have HSZ := Lib.hid hsz
  have HR0 := Lib.hid hr0
  have hs300 : (s.size : Int) ≤ 256 := by omega
  clear hl hlen hpc hat hr0 hsz
  go_enter Tryd.func17, Tryd.ntmps17
  go_wp2_with fail
  go_loopw [5, 6, 7] (fun v vf vi wr => ∃ (i fr : Nat) (pre : List (List UInt8)), vi = .int .i64 i ∧ vf = .int .i64 fr ∧ (∃ j f, i = j + 1 ∧ fr = f + 1 ∧ RP l j f pre) ∧ wr.ownsRow w.heap.size 9 1 v pre.length (pre.map (fun l => Value.string (txt l))) ∧ Below w.heap.size w wr) (fun _ _ vi _ => s.size + 1 - (intOf vi).toNat)
  case atStart => exact ⟨1, 1, [], rfl, rfl, ⟨0, 0, rfl, rfl, HR0.out⟩, World.ownsRow_nil _ _ _ _, Below.refl _ _⟩
  case round =>
    obtain ⟨i, fr, pre, rfl, rfl, ⟨j, f, hij, hfr, hrp⟩, hrow, hb⟩ := hrel
    have HRP := Lib.hid hrp
    have HBW := Lib.hid hb
    have HROW := Lib.hid hrow
    have hL := HSZ.out
    have hfj := hrp.fj
    have hjl := hrp.jl
    have hpj := hrp.pj
    obtain ⟨g, cap, rfl⟩ := owns_sl hrow
    have hpn : pre.length ≤ 257 := by omega
    have HIJ := Lib.hid hij
    have HFR := Lib.hid hfr
    by_cases hend : i ≤ s.size
    · have hle : (i : Int) ≤ s.size := by omega
      by_cases hlt : i < s.size
      · have hlt' : (i : Int) < s.size := by omega
        obtain ⟨c, hc⟩ : ∃ c, c = s[i]'hlt := ⟨_, rfl⟩
        have hcj : l[j]? = some c := by
          rw [hc]
          subst hij
          exact HAT.out j hlt
        by_cases h47 : c = 47
        · have dc : (((s[i]'hlt).toNat : Int) != 47) = false := by rw [← hc, h47]; rfl
          have hcl : j = l.length ∨ l[j]? = some 47 := .inr (h47 ▸ hcj)

          by_cases hjf : j = f
          · have hg := hrp.gap hcl hjf
            have de : ((i : Int) == (fr : Int)) = true := by rw [beq_iff_eq]; omega
            by_cases h8 : pre.length = 8
            · have d8 : ((pre.length : Int) == 8) = true := by rw [h8]; rfl
              rw [if_pos h8, ← hij] at hg
              have HR := Lib.hid (HB.out _ _ hg)
              clear hg hcl hrp hrow hb h8 hcj hc h47 hij hfr hL hfj hjl hpj hjf
              go_wp2_with fail
              go_ret3
              exact parse_done HR.out HBW.out
            · have d8 : ((pre.length : Int) == 8) = false := beq_eq_false_iff_ne.2 (by omega)
              rw [if_neg h8, ← hij] at hg
              have HR := Lib.hid (HB.out _ _ hg)
              clear hg hcl hrp hrow hb hcj hc h47 hij hfr hL hfj hjl hpj hjf
              go_wp2_with fail
              go_ret3
              exact parse_done HR.out HBW.out
          · have de : ((i : Int) == (fr : Int)) = false := beq_eq_false_iff_ne.2 (by omega)
            have hN := Lib.hid (hrp.name hcl hjf)
            have hx : s.extract fr i = txt ((l.drop f).take (j - f)) := by rw [hij, hfr]; exact HPC.out j f hfj
            obtain ⟨i0, hi, hz0, hz1, hz2⟩ := info_parts Tryd.infoStr
            have hfi : (fr : Int) ≤ i := by omega
            have hwz := HBW.out.size
            clear hcl hrp hb hcj hc h47 hij hfr hL hfj hjl hpj hjf
            go_wp2_with (at_builtin; refine wpList_append_own _ rfl _ _ 24 rfl w.heap.size 9 i0 (.string ⟨#[]⟩) 1 16 Tryd.underlying24 hi hz0 hz1 hz2 rfl (by decide) _ _ _ rfl (hrow.alloc _) ⟨wr.heap.size, 0, none⟩ 1 1 [.string (txt ((l.drop f).take (j - f)))] rfl rfl (cell_one_new _ _ _) (by simp [Value.oneCell']) (by unfold maxLen; omega) (by omega) (by simp; omega) ?_; intro v' w1 hown' hgrow _; have HB1 := Lib.hid (more_made HBW.out hrow hown' hgrow); have HO1 := Lib.hid hown'; clear hown' hgrow hrow)
            go_roundw
            case rel => exact ⟨i + 1, i + 1, pre ++ [(l.drop f).take (j - f)], by go_num, by go_num, ⟨j + 1, j + 1, by rw [HIJ.out], by rw [HIJ.out], hN.out⟩, by simpa using HO1.out, HB1.out⟩
            case measure => simp [intOf]; omega
        · have dc : (((s[i]'hlt).toNat : Int) != 47) = true := by rw [← hc]; exact bne_iff_ne.2 (fun e => h47 (UInt8.toNat_inj.1 (by show c.toNat = 47; omega)))
          by_cases hq : j = f ∧ pre.length = 8
          · have HR := Lib.hid (HB.out _ _ (hrp.deep hcj h47 hq.1 hq.2))
            have de : ((i : Int) == (fr : Int)) = true := by rw [beq_iff_eq]; omega
            have d8 : ((pre.length : Int) == 8) = true := by rw [hq.2]; rfl
            rw [← hij] at HR
            clear hcj hc hrp hrow hb hq hij hfr hL hfj hjl hpj
            go_wp2_with fail
            go_ret3
            exact parse_done HR.out HBW.out
          · have dq : ((i : Int) == (fr : Int)) = false ∨ ((i : Int) == (fr : Int)) = true ∧ ((pre.length : Int) == 8) = false := by
              by_cases q : j = f
              · exact .inr ⟨by rw [beq_iff_eq]; omega, beq_eq_false_iff_ne.2 (fun e => hq ⟨q, by omega⟩)⟩
              · exact .inl (beq_eq_false_iff_ne.2 (by omega))
            have hmy := fun w' => letter_any (c.toNat : Int) w'
            rw [letR_N] at hmy
            rw [hc] at hmy
            by_cases hlet : letN c.toNat = true
            · rw [← hc, hlet] at hmy
              rw [hc] at hmy
              have HMY := Lib.hid hmy
              have hwr : IntKind.i64.wrap ((i : Int) - fr) = (i : Int) - fr := IntWalk.i64_in _ (by omega)
              by_cases h32 : j = f + 32
              · have d32 : (((i : Int) - (fr : Int)) == 32) = true := by rw [beq_iff_eq]; omega
                have HR := Lib.hid (HB.out _ _ (hrp.long hcj h47 hq hlet h32))
                rw [← hij] at HR
                clear hcj hc hrp hrow hb hmy hlet hq h32 hij hfr hL hfj hjl hpj
                rcases dq with dq | ⟨dq, dq2⟩
                all_goals (
                  go_wp2_with (go_at_call 31; refine (HMY.out _).mono ?_; rintro e w' ⟨rfl, rfl⟩)
                  go_ret3
                  exact parse_done HR.out HBW.out)
              · have d32 : (((i : Int) - (fr : Int)) == 32) = false := beq_eq_false_iff_ne.2 (by omega)
                have HN := Lib.hid (hrp.on hcj h47 hq hlet h32)
                clear hcj hc hrp hrow hb hmy hlet hq h32 hij hfr hL hfj hjl hpj
                rcases dq with dq | ⟨dq, dq2⟩
                all_goals (
                  go_wp2_with (go_at_call 31; refine (HMY.out _).mono ?_; rintro e w' ⟨rfl, rfl⟩)
                  go_roundw
                  case rel => exact ⟨i + 1, fr, pre, by go_num, rfl, ⟨j + 1, f, by rw [HIJ.out], HFR.out, HN.out⟩, HROW.out, HBW.out⟩
                  case measure => simp [intOf]; omega)
            · have hlet' : letN c.toNat = false := by simpa using hlet
              rw [← hc, hlet'] at hmy
              rw [hc] at hmy
              have HMY := Lib.hid hmy
              have HR := Lib.hid (HB.out _ _ (hrp.bad hcj h47 hq hlet'))
              rw [← hij] at HR
              clear hcj hc hrp hrow hb hmy hlet hlet' hq hij hfr hL hfj hjl hpj
              rcases dq with dq | ⟨dq, dq2⟩
              all_goals (
                go_wp2_with (go_at_call 31; refine (HMY.out _).mono ?_; rintro e w' ⟨rfl, rfl⟩)
                go_ret3
                exact parse_done HR.out HBW.out)
      · have hnl : ¬ (i : Int) < s.size := by omega
        have hcl : j = l.length ∨ l[j]? = some 47 := .inl (by omega)

        by_cases hjf : j = f
        · have hg := hrp.gap hcl hjf
          have de : ((i : Int) == (fr : Int)) = true := by rw [beq_iff_eq]; omega
          by_cases h8 : pre.length = 8
          · have d8 : ((pre.length : Int) == 8) = true := by rw [h8]; rfl
            rw [if_pos h8, ← hij] at hg
            have HR := Lib.hid (HB.out _ _ hg)
            clear hg hcl hrp hrow hb h8  hij hfr hL hfj hjl hpj hjf
            go_wp2_with fail
            go_ret3
            exact parse_done HR.out HBW.out
          · have d8 : ((pre.length : Int) == 8) = false := beq_eq_false_iff_ne.2 (by omega)
            rw [if_neg h8, ← hij] at hg
            have HR := Lib.hid (HB.out _ _ hg)
            clear hg hcl hrp hrow hb  hij hfr hL hfj hjl hpj hjf
            go_wp2_with fail
            go_ret3
            exact parse_done HR.out HBW.out
        · have de : ((i : Int) == (fr : Int)) = false := beq_eq_false_iff_ne.2 (by omega)
          have hN := Lib.hid (hrp.name hcl hjf)
          have hx : s.extract fr i = txt ((l.drop f).take (j - f)) := by rw [hij, hfr]; exact HPC.out j f hfj
          obtain ⟨i0, hi, hz0, hz1, hz2⟩ := info_parts Tryd.infoStr
          have hfi : (fr : Int) ≤ i := by omega
          have hwz := HBW.out.size
          clear hcl hrp hb  hij hfr hL hfj hjl hpj hjf
          go_wp2_with (at_builtin; refine wpList_append_own _ rfl _ _ 24 rfl w.heap.size 9 i0 (.string ⟨#[]⟩) 1 16 Tryd.underlying24 hi hz0 hz1 hz2 rfl (by decide) _ _ _ rfl (hrow.alloc _) ⟨wr.heap.size, 0, none⟩ 1 1 [.string (txt ((l.drop f).take (j - f)))] rfl rfl (cell_one_new _ _ _) (by simp [Value.oneCell']) (by unfold maxLen; omega) (by omega) (by simp; omega) ?_; intro v' w1 hown' hgrow _; have HB1 := Lib.hid (more_made HBW.out hrow hown' hgrow); have HO1 := Lib.hid hown'; clear hown' hgrow hrow)
          go_roundw
          case rel => exact ⟨i + 1, i + 1, pre ++ [(l.drop f).take (j - f)], by go_num, by go_num, ⟨j + 1, j + 1, by rw [HIJ.out], by rw [HIJ.out], hN.out⟩, by simpa using HO1.out, HB1.out⟩
          case measure => simp [intOf]; omega
    · have hnle : ¬ (i : Int) ≤ s.size := by omega
      obtain ⟨hje, hpe, hge⟩ := hrp.en (by omega)
      have dn : ((fr : Int) == (s.size : Int)) = false := beq_eq_false_iff_ne.2 (by omega)
      have HR := Lib.hid (HG.out hge)
      have HPE := Lib.hid hpe
      clear hrp hrow hb hpe hge hje hij hfr hL hfj hjl hpj
      go_wp2_with fail
      go_ret3
      exact parse_good HR.out HPE.out HBW.out HROW.out

end Go.Proofs.YthchkhfnhhpleaaDoor
