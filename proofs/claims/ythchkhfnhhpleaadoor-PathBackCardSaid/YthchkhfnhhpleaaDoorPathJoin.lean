/- path.Join and the document's: names put together. -/
import Derived.Test.YthchkhfnhhpleaaDoorOpenStr
import Derived.Test.YthchkhfnhhpleaaDoorPathUnder
import Derived.RegionTactic
import Derived.ChangeAlike
import Derived.Lib.Join
namespace Go.Proofs.YthchkhfnhhpleaaDoor
open Go.RowKit Go.Shelf
set_option maxRecDepth 100000

theorem join_eq : ∀ (l : List (List UInt8)), Lib.join l [47] = joinWith 47 l
  | [] => rfl
  | [a] => by rw [Lib.join_one]; rfl
  | a :: b :: r => by
    have ih := join_eq (b :: r)
    rw [Lib.join_cons] at ih
    rw [Lib.join_cons, joinWith, ← ih]
    simp [Lib.joinTail]
theorem strokes_len : ∀ (l : List (List UInt8)), (∀ p ∈ l, Named p) → (strokes l).length ≤ 33 * l.length
  | [], _ => Nat.le_refl _
  | n :: l, h => by
    have ih := strokes_len l (fun p hp => h p (by simp [hp]))
    have := (h n (by simp)).2.1
    rw [strokes_cons]
    simp only [List.length_cons, List.length_append]
    omega
theorem pathText_len (l : List (List UInt8)) (h : ∀ p ∈ l, Named p) (h8 : l.length ≤ 8) : (pathText l).length ≤ 264 := by
  unfold pathText
  split
  · simp
  · have := strokes_len l h; omega
theorem txt_app (a b : List UInt8) : txt a ++ txt b = txt (a ++ b) := by
  apply ByteArray.ext
  apply Array.toList_inj.1
  rw [ByteArray.data_append, Array.toList_append]
  rfl
theorem txt_size (a : List UInt8) : (txt a).size = a.length := by show a.toArray.size = _; simp
theorem badName_at {l : List (List UInt8)} {i : Nat} {x : List UInt8} (h : l[i]? = some x) : badName (l.drop i) = if (nameR x).2 = 0 then badName (l.drop (i + 1)) else (nameR x).2 := by
  obtain ⟨h1, rfl⟩ := List.getElem?_eq_some_iff.1 h
  rw [List.drop_eq_getElem_cons h1, badName]

set_option maxHeartbeats 4000000 in
theorem pjoin_any (p : Option Addr) (l : List (List UInt8)) (cap : Nat) (w : World) (h : TxS w p l) (hc : l.length ≤ cap) :
    Calls Tryd.prog 21 #[.slice p l.length cap] w fun e w' => e = .returned (.tuple #[.string (txt (joinR l).1), .int .i64 ((joinR l).2 : Int)]) ∧ Mod No w w' := by
  by_cases h8 : 8 < l.length
  · have h8' : (8 : Int) < l.length := by omega
    have hR : joinR l = ([], 2) := by unfold joinR; rw [if_pos h8]
    rw [hR]
    clear hR h hc
    go_enter Tryd.func21, Tryd.ntmps21
    go_wp2_with fail
    go_ret2
    exact ⟨rfl, Mod.refl _ _⟩
  have HS := Lib.hid h
  have HR : Hid (joinR l = if badName l = 0 then (if 256 < (pathText l).length then ([], 2) else (pathText l, 0)) else ([], badName l)) := by unfold joinR; rw [if_neg h8]; exact rfl
  have hl8 : (l.length : Int) ≤ 8 := by omega
  have h8' : ¬ (8 : Int) < l.length := by omega
  have H0 : Hid (badName l = badName (l.drop 0)) := rfl
  clear h
  go_enter Tryd.func21, Tryd.ntmps21
  go_wp2_with fail
  go_loopw [14] (fun vi wr => ∃ i : Nat, vi = .int .i64 i ∧ i ≤ l.length ∧ badName l = badName (l.drop i) ∧ Mod No w wr) (fun vi _ => l.length - (intOf vi).toNat)
  case atStart => exact ⟨0, rfl, Nat.zero_le _, H0.out, Mod.refl _ _⟩
  case round =>
    obtain ⟨i, rfl, hi, hsc, hm⟩ := hrel
    have hi8 : (i : Int) ≤ 8 := by omega
    have HM := Lib.hid hm
    by_cases hlt : i < l.length
    · have hlt' : (i : Int) < l.length := by omega
      obtain ⟨x, hx⟩ : ∃ x, l[i]? = some x := ⟨_, List.getElem?_eq_getElem hlt⟩
      obtain ⟨b, off, rfl, hb, hcell⟩ := (HS.out.kept hm).cellAt hx
      have hxs := HS.out.ok x (List.mem_of_getElem? hx)
      have hna := fun w' => name_any (txt x) w' (by rw [txt_size]; exact hxs)
      rw [txt_toList] at hna
      rw [badName_at hx] at hsc
      generalize nameR x = r at hna hsc
      obtain ⟨na, ne⟩ := r
      dsimp only at hna hsc
      have HN := Lib.hid hna
      by_cases he : ne = 0
      · have de : ((ne : Int) != 0) = false := by rw [he]; rfl
        rw [if_pos he] at hsc
        have HSC := Lib.hid hsc
        clear hsc hna hxs hx he hm h8 hi
        go_wp2_with fail
        refine (HN.out _).mono ?_
        rintro e w2 ⟨rfl, hm2⟩
        have HM2 := Lib.hid (HM.out.trans hm2)
        clear hm2
        go_wp2_with fail
        go_roundw
        case rel => exact ⟨i + 1, by go_num, by omega, HSC.out, HM2.out⟩
        case measure => simp [intOf]; omega
      · have de : ((ne : Int) != 0) = true := bne_iff_ne.2 (by omega)
        rw [if_neg he] at hsc
        have HE : Hid (joinR l = ([], ne)) := by rw [HR.out, hsc, if_neg he]; exact rfl
        clear hsc hna hxs hx he hm h8 hi
        go_wp2_with fail
        refine (HN.out _).mono ?_
        rintro e w2 ⟨rfl, hm2⟩
        have HM2 := Lib.hid (HM.out.trans hm2)
        clear hm2
        go_wp2_with fail
        go_ret2
        rw [HE.out]
        exact ⟨rfl, HM2.out⟩
    · have hlt' : ¬ (i : Int) < l.length := by omega
      have hn : l.drop i = [] := List.drop_of_length_le (by omega)
      rw [hn] at hsc
      have hbad : badName l = 0 := hsc
      have hnam := named_badName l hbad
      have hln := pathText_len l hnam (by omega)
      have hjl : (joinWith 47 l).length ≤ 264 := by
        have := congrArg List.length (joinWith_path l)
        simp only [List.length_cons] at this
        omega
      have HJ : Hid (∀ w', Mod No w w' → Calls Tryd.prog 32 #[.slice p l.length cap, .string ⟨#[47]⟩] w' fun e w'' => e = .returned (.string (txt (joinWith 47 l))) ∧ Mod No w' w'') := by
        intro w' hm'
        by_cases hl0 : l = []
        · subst hl0
          refine (Tryd.strings_Join_none p cap ⟨#[47]⟩ w').mono ?_
          rintro e w'' ⟨rfl, rfl⟩
          exact ⟨rfl, Mod.refl _ _⟩
        · have hpos : 0 < l.length := List.length_pos_iff.2 hl0
          obtain ⟨b, off, rfl, hb, hcs⟩ := (HS.out.kept hm').at_ hpos
          have hmm : (l.map txt).map (·.data.toList) = l := by rw [List.map_map]; exact List.map_id' l
          have := Tryd.strings_Join b off cap (l.map txt) ⟨#[47]⟩ w' (fun j x hx => by
            rw [List.getElem?_map, Option.map_eq_some_iff] at hx
            obtain ⟨y, hy, rfl⟩ := hx
            exact hcs j y hy) hb (by rw [List.length_map]; omega) (by rw [List.length_map]; exact hc) (by
            rw [hmm, show (⟨#[47]⟩ : ByteArray).data.toList = [47] from rfl, join_eq]; omega)
          rw [hmm, show (⟨#[47]⟩ : ByteArray).data.toList = [47] from rfl, join_eq, List.length_map] at this
          refine this.mono ?_
          rintro e w'' ⟨rfl, hb2⟩
          exact ⟨rfl, Mod.of_below hb2⟩
      have hcat : (⟨#[47]⟩ : ByteArray) ++ txt (joinWith 47 l) = txt (pathText l) := by
        rw [← joinWith_path l]; exact txt_app [47] _
      have hsz := txt_size (pathText l)
      have hcl : ¬ 9223372036854775807 < 1 + (txt (joinWith 47 l)).size := by rw [txt_size]; omega
      have HB := Lib.hid hbad
      clear hsc hn hbad hnam h8 hm hi hjl
      by_cases h256 : 256 < (pathText l).length
      · have h256' : (256 : Int) < (pathText l).length := by omega
        have HE : Hid (joinR l = ([], 2)) := by rw [HR.out, if_pos HB.out, if_pos h256]; exact rfl
        generalize pathText l = pt at hcat hsz HE h256 h256' hln
        generalize joinWith 47 l = jw at hcat HJ hcl
        go_wp2_with fail
        refine (HJ.out _ HM.out).mono ?_
        rintro e w2 ⟨rfl, hm2⟩
        have HM2 := Lib.hid (HM.out.trans hm2)
        clear hm2
        go_wp2_with fail
        go_ret2
        rw [HE.out]
        exact ⟨rfl, HM2.out⟩
      · have h256' : ¬ (256 : Int) < (pathText l).length := by omega
        have HE : Hid (joinR l = (pathText l, 0)) := by rw [HR.out, if_pos HB.out, if_neg h256]; exact rfl
        generalize pathText l = pt at hcat hsz HE h256 h256' hln
        generalize joinWith 47 l = jw at hcat HJ hcl
        go_wp2_with fail
        refine (HJ.out _ HM.out).mono ?_
        rintro e w2 ⟨rfl, hm2⟩
        have HM2 := Lib.hid (HM.out.trans hm2)
        clear hm2
        go_wp2_with fail
        go_ret2
        rw [HE.out]
        exact ⟨rfl, HM2.out⟩

end Go.Proofs.YthchkhfnhhpleaaDoor
