/- path.May and the document's: what permissions let a domain do. -/
import Derived.Test.YthchkhfnhhpleaaDoorOpenPm
import Derived.Test.YthchkhfnhhpleaaDoorPathUnder
import Derived.RegionTactic
import Derived.LoopN
import Derived.ChangeAlike
import Derived.BigQuiet
import Derived.Deep.QuietTactic
namespace Go.Proofs.YthchkhfnhhpleaaDoor
open Go.RowKit
set_option maxRecDepth 100000

def mayGo : List Pm → Int → Pm → Bool × Bool
  | [], _, p => (p.read, p.write)
  | q :: r, d, p => if q.dom = d then (q.read, q.write) else mayGo r d p
def mayR (l : List Pm) (d : Int) : Bool × Bool := match l with
  | [] => (false, false)
  | p :: r => if d = 0 ∨ d = p.dom then (true, true) else mayGo r d p

theorem mayR_cons (p : Pm) (r : List Pm) (d : Int) : mayR (p :: r) d = if d = 0 ∨ d = p.dom then (true, true) else mayGo r d p := rfl
theorem drop_cons {l : List Pm} {i : Nat} {q : Pm} (h : l[i]? = some q) : l.drop i = q :: l.drop (i + 1) := by
  have hlt := (List.getElem?_eq_some_iff.1 h).1
  rw [List.drop_eq_getElem_cons hlt]
  congr 1
  exact (List.getElem?_eq_some_iff.1 h).2

set_option maxHeartbeats 4000000 in
theorem pmay_any (p : Option Addr) (l : List Pm) (cap : Nat) (d : Int) (w : World) (h : PmS w p l) (hc : l.length ≤ cap) (hsz : l.length * 16 ≤ 140737488355328) :
    Calls Tryd.prog 19 #[.slice p l.length cap, .int .i64 d] w fun e w' => e = .returned (.tuple #[.bool (mayR l d).1, .bool (mayR l d).2]) ∧ Mod No w w' := by
  match l, h, hc, hsz with
  | [], h, hc, hsz =>
    go_enter Tryd.func19, Tryd.ntmps19
    go_wp2
    go_ret2
    exact ⟨rfl, Mod.refl _ _⟩
  | p0 :: r, h, hc, hsz =>
    obtain ⟨b, off, rfl, hb, c0, c1, c2⟩ := h.cellsAt (i := 0) (o := p0) rfl
    simp only [Nat.zero_mul, Nat.add_zero] at c0 c1 c2
    have hz : ((r.length : Int) + 1 == 0) = false := beq_eq_false_iff_ne.2 (by omega)
    have hcap : (1 : Int) ≤ cap := by simp only [List.length_cons] at hc; omega
    have hlc : (r.length : Int) + 1 ≤ cap := by simp only [List.length_cons] at hc; omega
    have HS := Lib.hid h
    rw [List.length_cons] at hc hsz
    show Calls Tryd.prog 19 #[.slice (some ⟨b, off, none⟩) (r.length + 1) cap, .int .i64 d] w _
    by_cases hd : d = 0
    · have d0 : (d == 0) = true := beq_iff_eq.2 hd
      have hR : mayR (p0 :: r) d = (true, true) := by rw [mayR_cons, if_pos (.inl hd)]
      rw [hR]
      clear hR hd h
      go_enter Tryd.func19, Tryd.ntmps19
      go_wp2
      go_ret2
      exact ⟨rfl, Mod.refl _ _⟩
    have d0 : (d == 0) = false := beq_eq_false_iff_ne.2 hd
    by_cases hd1 : d = p0.dom
    · have d1 : (d == p0.dom) = true := beq_iff_eq.2 hd1
      have hR : mayR (p0 :: r) d = (true, true) := by rw [mayR_cons, if_pos (.inr hd1)]
      rw [hR]
      clear hR hd hd1 h
      go_enter Tryd.func19, Tryd.ntmps19
      go_wp2
      go_ret2
      exact ⟨rfl, Mod.refl _ _⟩
    have d1 : (d == p0.dom) = false := beq_eq_false_iff_ne.2 hd1
    have hR : mayR (p0 :: r) d = mayGo r d p0 := by rw [mayR_cons, if_neg (by rintro (e | e); exact hd e; exact hd1 e)]
    rw [hR]
    clear hR hd hd1 h
    have hl0 : (0 : Int) ≤ r.length := by omega
    by_cases hr0 : r = []
    · subst hr0
      have hR : mayGo [] d p0 = (p0.read, p0.write) := rfl
      rw [hR]
      clear hR
      show Calls Tryd.prog 19 #[.slice (some ⟨b, off, none⟩) (0 + 1) cap, .int .i64 d] w _
      go_enter Tryd.func19, Tryd.ntmps19
      go_wp2_with fail
      all_goals (
        refine wp_loop_rounds 1 ?_
        rw [rounds_succ]
        go_wp2_with fail
        go_region
        all_goals (
          go_wp2
          go_ret2
          exact ⟨rfl, (Mod.refl No w).drew⟩))
    · have hrl : r.length ≠ 0 := fun e => hr0 (List.eq_nil_of_length_eq_zero e)
      have hc2 : (1 : Int) < cap := by omega
      have hc3 : ¬ ((1 : Int) = cap) := by omega
      have hc4 : ¬ (1 = cap) := by omega
      clear hr0
      go_enter Tryd.func19, Tryd.ntmps19
      go_wp2_with fail
      go_loopw [26] (fun v wr => ∃ i : Nat, v = .int .i64 i ∧ i ≤ r.length ∧ mayGo r d p0 = mayGo (r.drop i) d p0 ∧ Mod No w wr) (fun v _ => r.length - (intOf v).toNat)
      case atStart => exact ⟨0, rfl, Nat.zero_le _, rfl, Mod.refl _ _⟩
      case round =>
        obtain ⟨i, rfl, hi, hgo, hm⟩ := hrel
        have k1 := (World.cell?_of_block (w := w) (hm.block b hb (fun q => q))).trans c1
        have k2 := (World.cell?_of_block (w := w) (hm.block b hb (fun q => q))).trans c2
        by_cases hlt : i < r.length
        · have hlt' : (i : Int) < r.length := by omega
          have hi0 : (0 : Int) ≤ i := by omega
          obtain ⟨q, hq⟩ : ∃ q, r[i]? = some q := ⟨_, List.getElem?_eq_getElem hlt⟩
          obtain ⟨b', off', e', _, x0, x1, x2⟩ := (HS.out.kept hm).cellsAt (i := i + 1) (o := q) hq
          simp only [Option.some.injEq, Addr.mk.injEq, and_true] at e'
          obtain ⟨rfl, rfl⟩ := e'
          rw [show off + (i + 1) * 3 = off + 3 + i * 3 by omega] at x0 x1 x2
          rw [drop_cons hq, mayGo] at hgo
          have HM := Lib.hid hm
          clear hm hq c0 c1 c2
          by_cases hqd : q.dom = d
          · have dq : (q.dom == d) = true := beq_iff_eq.2 hqd
            rw [if_pos hqd] at hgo
            have HGO := Lib.hid hgo
            clear hgo hqd
            go_wp2_with fail
            go_region
            all_goals (
              go_wp2
              go_ret2
              exact ⟨by rw [HGO.out]; rfl, (HM.out.alloc _).drew⟩)
          · have dq : (q.dom == d) = false := beq_eq_false_iff_ne.2 hqd
            rw [if_neg hqd] at hgo
            have HGO := Lib.hid hgo
            clear hgo hqd
            go_wp2
            go_roundw
            case rel => exact ⟨i + 1, by go_num, by omega, HGO.out, HM.out.alloc _⟩
            case measure => simp [intOf]; omega
        · obtain rfl : i = r.length := by omega
          rw [List.drop_length] at hgo
          have HGO := Lib.hid hgo
          have HM := Lib.hid hm
          clear hm hgo c0 c1 c2
          go_wp2_with fail
          go_region
          all_goals (
            go_wp2
            go_ret2
            exact ⟨by rw [HGO.out]; rfl, HM.out.drew⟩)

set_option maxHeartbeats 4000000 in
theorem rmay_any (p : Option Addr) (l : List Pm) (cap : Nat) (d : Int) (w : World) (h : PmS w p l) (hc : l.length ≤ cap) (hsz : l.length * 16 ≤ 140737488355328) :
    Calls Tryd.prog 20 #[.slice p l.length cap, .int .i64 d] w fun e w' => e = .returned (.tuple #[.bool (mayR l d).1, .bool (mayR l d).2]) ∧ Mod No w w' := by
  match l, h, hc, hsz with
  | [], h, hc, hsz =>
    go_enter Tryd.func20, Tryd.ntmps20
    go_wp2
    go_ret2
    exact ⟨rfl, Mod.refl _ _⟩
  | p0 :: r, h, hc, hsz =>
    obtain ⟨b, off, rfl, hb, c0, c1, c2⟩ := h.cellsAt (i := 0) (o := p0) rfl
    simp only [Nat.zero_mul, Nat.add_zero] at c0 c1 c2
    have hz : ((r.length : Int) + 1 == 0) = false := beq_eq_false_iff_ne.2 (by omega)
    have hcap : (1 : Int) ≤ cap := by simp only [List.length_cons] at hc; omega
    have HS := Lib.hid h
    rw [List.length_cons] at hc hsz
    show Calls Tryd.prog 20 #[.slice (some ⟨b, off, none⟩) (r.length + 1) cap, .int .i64 d] w _
    by_cases hd : d = 0
    · have d0 : (d == 0) = true := beq_iff_eq.2 hd
      have hR : mayR (p0 :: r) d = (true, true) := by rw [mayR_cons, if_pos (.inl hd)]
      rw [hR]
      clear hR hd h
      go_enter Tryd.func20, Tryd.ntmps20
      go_wp2
      go_ret2
      exact ⟨rfl, Mod.refl _ _⟩
    have d0 : (d == 0) = false := beq_eq_false_iff_ne.2 hd
    by_cases hd1 : d = p0.dom
    · have d1 : (d == p0.dom) = true := beq_iff_eq.2 hd1
      have hR : mayR (p0 :: r) d = (true, true) := by rw [mayR_cons, if_pos (.inr hd1)]
      rw [hR]
      clear hR hd hd1 h
      go_enter Tryd.func20, Tryd.ntmps20
      go_wp2
      go_ret2
      exact ⟨rfl, Mod.refl _ _⟩
    have d1 : (d == p0.dom) = false := beq_eq_false_iff_ne.2 hd1
    have hR : mayR (p0 :: r) d = mayGo r d p0 := by rw [mayR_cons, if_neg (by rintro (e | e); exact hd e; exact hd1 e)]
    rw [hR]
    clear hR hd hd1 h
    go_enter Tryd.func20, Tryd.ntmps20
    go_wp2_with fail
    go_loopw [6] (fun v wr => ∃ i : Nat, v = .int .i64 ((i : Int) + 1) ∧ i ≤ r.length ∧ mayGo r d p0 = mayGo (r.drop i) d p0 ∧ Mod No w wr) (fun v _ => r.length + 1 - (intOf v).toNat)
    case atStart => exact ⟨0, rfl, Nat.zero_le _, rfl, Mod.refl _ _⟩
    case round =>
      obtain ⟨i, rfl, hi, hgo, hm⟩ := hrel
      have k1 := (World.cell?_of_block (w := w) (hm.block b hb (fun q => q))).trans c1
      have k2 := (World.cell?_of_block (w := w) (hm.block b hb (fun q => q))).trans c2
      by_cases hlt : i < r.length
      · have hlt' : (i : Int) < r.length := by omega
        have hi0 : (0 : Int) ≤ i := by omega
        have hi1 : (0 : Int) ≤ (i : Int) + 1 := by omega
        have hin : ((i : Int) + 1).toNat = i + 1 := by omega
        have hlt2 : (i : Int) + 1 < (r.length : Int) + 1 := by omega
        obtain ⟨q, hq⟩ : ∃ q, r[i]? = some q := ⟨_, List.getElem?_eq_getElem hlt⟩
        obtain ⟨b', off', e', _, x0, x1, x2⟩ := (HS.out.kept hm).cellsAt (i := i + 1) (o := q) hq
        simp only [Option.some.injEq, Addr.mk.injEq, and_true] at e'
        obtain ⟨rfl, rfl⟩ := e'
        rw [drop_cons hq, mayGo] at hgo
        have HM := Lib.hid hm
        clear hm hq c0 c1 c2 k1 k2
        by_cases hqd : q.dom = d
        · have dq : (q.dom == d) = true := beq_iff_eq.2 hqd
          rw [if_pos hqd] at hgo
          have HGO := Lib.hid hgo
          clear hgo hqd
          go_upto_region 9 with (fail)
          go_region
          all_goals (
            go_wp2
            go_ret2
            exact ⟨by rw [HGO.out]; rfl, HM.out.drew⟩)
        · have dq : (q.dom == d) = false := beq_eq_false_iff_ne.2 hqd
          rw [if_neg hqd] at hgo
          have HGO := Lib.hid hgo
          clear hgo hqd
          go_wp2
          go_roundw
          case rel => exact ⟨i + 1, by go_num, by omega, HGO.out, HM.out⟩
          case measure => simp [intOf]; omega
      · obtain rfl : i = r.length := by omega
        rw [List.drop_length] at hgo
        have HGO := Lib.hid hgo
        have HM := Lib.hid hm
        clear hm hgo c0 c1 c2
        go_wp2_with fail
        go_region
        all_goals (
          go_wp2
          go_ret2
          exact ⟨by rw [HGO.out]; rfl, HM.out.drew⟩)

theorem mays_any (p : Option Addr) (l : List Pm) (cap : Nat) (d : Int) (w : World) (h : PmS w p l) (hc : l.length ≤ cap) (hsz : l.length * 16 ≤ 140737488355328) :
    Calls Tryd.prog 7 #[.slice p l.length cap, .int .i64 d] w fun e w' => e = .returned (.bool true) ∧ Mod No w w' := by
  have HA := Lib.hid (fun w' (hm : Mod No w w') => pmay_any p l cap d w' (h.kept hm) hc hsz)
  have HB := Lib.hid (fun w' (hm : Mod No w w') => rmay_any p l cap d w' (h.kept hm) hc hsz)
  clear h hc hsz
  generalize mayR l d = r at HA HB
  obtain ⟨x, y⟩ := r
  dsimp only at HA HB
  go_enter Tryd.func7, Tryd.ntmps7
  go_wp2_with fail
  refine (HA.out _ (Mod.refl _ _)).mono ?_
  rintro e w2 ⟨rfl, hm2⟩
  have HM2 := Lib.hid hm2
  clear hm2
  go_wp2_with fail
  refine (HB.out _ HM2.out).mono ?_
  rintro e w3 ⟨rfl, hm3⟩
  have HM3 := Lib.hid (HM2.out.trans hm3)
  clear hm3
  go_wp2_with fail
  refine (awake_yes _).mono ?_
  rintro e w4 ⟨rfl, hm4⟩
  have HM4 := Lib.hid (HM3.out.trans hm4)
  clear hm4
  go_wp2
  go_ret
  exact ⟨rfl, HM4.out⟩

end Go.Proofs.YthchkhfnhhpleaaDoor
