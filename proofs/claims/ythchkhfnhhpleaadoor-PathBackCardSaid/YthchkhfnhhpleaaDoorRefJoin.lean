/- tenementref09.Join; the law's copy. -/
import Derived.Test.YthchkhfnhhpleaaDoorPathJoin
import Derived.Laws.AppendOwnNone
import Derived.Maps.AppendAt
namespace Go.Proofs.YthchkhfnhhpleaaDoor
open Go.RowKit Go.Shelf
set_option maxRecDepth 100000

theorem strokes_take {l : List (List UInt8)} {i : Nat} {x : List UInt8} (h : l[i]? = some x) : strokes (l.take (i + 1)) = strokes (l.take i) ++ [47] ++ x := by
  rw [List.take_add_one, h]
  simp [strokes]

set_option maxHeartbeats 4000000 in
theorem rjoin_any (p : Option Addr) (l : List (List UInt8)) (cap : Nat) (w : World) (h : TxS w p l) :
    Calls Tryd.prog 22 #[.slice p l.length cap] w fun e w' => e = .returned (.tuple #[.string (txt (joinR l).1), .int .i64 ((joinR l).2 : Int)]) ∧ w = w' := by
  by_cases h8 : 8 < l.length
  · have h8' : (8 : Int) < l.length := by omega
    have hR : joinR l = ([], 2) := by unfold joinR; rw [if_pos h8]
    rw [hR]
    clear hR h
    go_enter Tryd.func22, Tryd.ntmps22
    go_wp2_with fail
    go_ret2
    exact ⟨rfl, rfl⟩
  have HS := Lib.hid h
  have HR : Hid (joinR l = if badName l = 0 then (if 256 < (pathText l).length then ([], 2) else (pathText l, 0)) else ([], badName l)) := by unfold joinR; rw [if_neg h8]; exact rfl
  have hl8 : (l.length : Int) ≤ 8 := by omega
  have h8' : ¬ (8 : Int) < l.length := by omega
  have H0 : Hid (badName l = badName (l.drop 0)) := rfl
  clear h
  go_enter Tryd.func22, Tryd.ntmps22
  go_wp2_with fail
  go_loopw [4, 5] (fun vs vi wr => ∃ i : Nat, vi = .int .i64 i ∧ vs = .string (txt (strokes (l.take i))) ∧ i ≤ l.length ∧ (∀ q ∈ l.take i, Named q) ∧ badName l = badName (l.drop i) ∧ wr = w) (fun _ vi _ => l.length - (intOf vi).toNat)
  case atStart => exact ⟨0, rfl, rfl, Nat.zero_le _, by simp, H0.out, rfl⟩
  case round =>
    obtain ⟨i, rfl, rfl, hi, hnam, hsc, rfl⟩ := hrel
    have hi8 : (i : Int) ≤ 8 := by omega
    have hsl := strokes_len (l.take i) hnam
    rw [List.length_take] at hsl
    by_cases hlt : i < l.length
    · have hlt' : (i : Int) < l.length := by omega
      obtain ⟨x, hx⟩ : ∃ x, l[i]? = some x := ⟨_, List.getElem?_eq_getElem hlt⟩
      obtain ⟨b, off, rfl, hb, hcell⟩ := HS.out.cellAt hx
      have hxs := HS.out.ok x (List.mem_of_getElem? hx)
      have hna := fun w' => rname_any (txt x) w' (by rw [txt_size]; exact hxs)
      rw [txt_toList] at hna
      rw [badName_at hx] at hsc
      have hst := strokes_take hx
      have hc1 : txt (strokes (l.take i)) ++ ⟨#[47]⟩ = txt (strokes (l.take i) ++ [47]) := txt_app _ [47]
      have hc2 := txt_app (strokes (l.take i) ++ [47]) x
      rw [← hst] at hc2
      have hnx : (nameR x).2 = 0 → ∀ q ∈ l.take (i + 1), Named q := fun he q hq => by
        rw [List.take_add_one, hx] at hq
        rcases List.mem_append.1 hq with hq | hq
        · exact hnam q hq
        · simp only [Option.toList_some, List.mem_singleton] at hq
          rw [hq]; exact nameR_ok he
      have HNX := Lib.hid hnx
      generalize hr : nameR x = r at hna hsc HNX
      obtain ⟨na, ne⟩ := r
      dsimp only at hna hsc HNX
      have HN := Lib.hid hna
      by_cases he : ne = 0
      · have de : ((ne : Int) != 0) = false := by rw [he]; rfl
        have hxn := nameR_ok (l := x) (by rw [hr]; exact he)
        have HNM := Lib.hid (HNX.out he)
        rw [if_pos he] at hsc
        have HSC := Lib.hid hsc
        have s1 : ¬ 9223372036854775807 < (txt (strokes (l.take i))).size + 1 := by rw [txt_size]; omega
        have s2 : ¬ 9223372036854775807 < (txt (strokes (l.take i) ++ [47])).size + (txt x).size := by
          rw [txt_size, txt_size, List.length_append]; have := hxn.2.1; simp only [List.length_singleton]; omega
        generalize hst1 : strokes (l.take (i + 1)) = st1 at hc2
        have HS1 := Lib.hid hst1
        generalize strokes (l.take i) = st at hc1 hc2 s1 s2
        generalize st ++ [47] = st2 at hc1 hc2 s2
        clear hsc hna hxs hx he h8 hi hst hnx hr hnam hsl hst1 hxn
        go_wp2_with fail
        refine (HN.out _).mono ?_
        rintro e w2 ⟨rfl, rfl⟩
        go_wp2_with fail
        go_roundw
        case rel => exact ⟨i + 1, by go_num, by rw [HS1.out], by omega, HNM.out, HSC.out, by trivial⟩
        case measure => simp [intOf]; omega
      · have de : ((ne : Int) != 0) = true := bne_iff_ne.2 (by omega)
        rw [if_neg he] at hsc
        have HE : Hid (joinR l = ([], ne)) := by rw [HR.out, hsc, if_neg he]; exact rfl
        generalize strokes (l.take i) = st
        clear hsc hna hxs hx he h8 hi hc1 hc2 hst hnx hr hnam hsl
        go_wp2_with fail
        refine (HN.out _).mono ?_
        rintro e w2 ⟨rfl, rfl⟩
        go_wp2_with fail
        go_ret2
        rw [HE.out]
        exact ⟨rfl, rfl⟩
    · have hlt' : ¬ (i : Int) < l.length := by omega
      have hn : l.drop i = [] := List.drop_of_length_le (by omega)
      have ht : l.take i = l := List.take_of_length_le (by omega)
      rw [hn] at hsc
      rw [ht] at hnam hsl ⊢
      have hbad : badName l = 0 := hsc
      have hss := txt_size (strokes l)
      by_cases hl0 : l = []
      · have hs0 : strokes l = [] := by rw [hl0]; rfl
        have HE : Hid (joinR l = ([47], 0)) := by rw [hl0]; exact rfl
        rw [hs0] at hss
        rw [hs0]
        have he : (txt []).toList.isEmpty = true := by rw [toList_emp, txt_size]; rfl
        have hlz : ¬ (256 : Int) < (0 : Nat) := by omega
        clear hsc hn ht hs0 hnam hsl hbad hi h8 hl0
        go_wp2_with fail
        go_ret2
        rw [HE.out]
        exact ⟨rfl, rfl⟩
      · have hp : pathText l = strokes l := by unfold pathText; rw [if_neg hl0]
        have hne : strokes l ≠ [] := by
          cases l with
          | nil => exact absurd rfl hl0
          | cons n l => exact strokes_ne
        have he : (txt (strokes l)).toList.isEmpty = false := by
          rw [toList_emp, hss]
          exact decide_eq_false (fun e => hne (List.eq_nil_of_length_eq_zero e))
        have HR2 := Lib.hid HR.out
        have hJ := HR.out
        rw [if_pos hbad, hp] at hJ
        generalize strokes l = st at hss he hJ
        by_cases h256 : 256 < st.length
        · have h256' : (256 : Int) < st.length := by omega
          rw [if_pos h256] at hJ
          have HE := Lib.hid hJ
          clear hsc hn ht hnam hsl hbad hi h8 hl0 hp hne hJ
          go_wp2_with fail
          go_ret2
          rw [HE.out]
          exact ⟨rfl, rfl⟩
        · have h256' : ¬ (256 : Int) < st.length := by omega
          rw [if_neg h256] at hJ
          have HE := Lib.hid hJ
          clear hsc hn ht hnam hsl hbad hi h8 hl0 hp hne hJ
          go_wp2_with fail
          go_ret2
          rw [HE.out]
          exact ⟨rfl, rfl⟩

end Go.Proofs.YthchkhfnhhpleaaDoor
