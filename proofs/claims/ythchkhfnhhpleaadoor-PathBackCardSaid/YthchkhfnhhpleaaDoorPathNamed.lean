/- path.named and the document's: is a domain named? -/
import Derived.Test.YthchkhfnhhpleaaDoorPathMay
namespace Go.Proofs.YthchkhfnhhpleaaDoor
open Go.RowKit
set_option maxRecDepth 100000

theorem namedP_at {l : List Pm} {i : Nat} {q : Pm} (h : l[i]? = some q) (d : Int) : namedP (l.drop i) d = (q.dom == d || namedP (l.drop (i + 1)) d) := by
  rw [drop_cons h]; rfl

set_option maxHeartbeats 4000000 in
theorem pnamed_any (p : Option Addr) (l : List Pm) (cap : Nat) (d : Int) (w : World) (h : PmS w p l) (hsz : l.length * 16 ≤ 140737488355328) :
    Calls Tryd.prog 33 #[.slice p l.length cap, .int .i64 d] w fun e w' => e = .returned (.bool (namedP l d)) ∧ Mod No w w' := by
  have HS := Lib.hid h
  have H0 : Hid (namedP l d = namedP (l.drop 0) d) := rfl
  clear h
  go_enter Tryd.func33, Tryd.ntmps33
  go_wp2_with fail
  go_loopw [9] (fun v wr => ∃ i : Nat, v = .int .i64 i ∧ i ≤ l.length ∧ namedP l d = namedP (l.drop i) d ∧ Mod No w wr) (fun v _ => l.length - (intOf v).toNat)
  case atStart => exact ⟨0, rfl, Nat.zero_le _, H0.out, Mod.refl _ _⟩
  case round =>
    obtain ⟨i, rfl, hi, hgo, hm⟩ := hrel
    have HM := Lib.hid hm
    by_cases hlt : i < l.length
    · have hlt' : (i : Int) < l.length := by omega
      obtain ⟨q, hq⟩ : ∃ q, l[i]? = some q := ⟨_, List.getElem?_eq_getElem hlt⟩
      obtain ⟨b, off, rfl, _, x0, x1, x2⟩ := (HS.out.kept hm).cellsAt hq
      rw [namedP_at hq] at hgo
      clear hm hq
      by_cases hqd : q.dom = d
      · have dq : (q.dom == d) = true := beq_iff_eq.2 hqd
        rw [dq, Bool.true_or] at hgo
        have HGO := Lib.hid hgo
        clear hgo hqd
        go_wp2_with fail
        go_ret
        rw [HGO.out]
        exact ⟨rfl, HM.out.alloc _⟩
      · have dq : (q.dom == d) = false := beq_eq_false_iff_ne.2 hqd
        rw [dq, Bool.false_or] at hgo
        have HGO := Lib.hid hgo
        clear hgo hqd
        go_wp2
        go_roundw
        case rel => exact ⟨i + 1, by go_num, by omega, HGO.out, HM.out.alloc _⟩
        case measure => simp [intOf]; omega
    · have hlt' : ¬ (i : Int) < l.length := by omega
      have hn : l.drop i = [] := List.drop_of_length_le (by omega)
      rw [hn] at hgo
      have HGO : Hid (namedP l d = false) := hgo
      clear hgo hm hn
      go_wp2_with fail
      go_ret
      rw [HGO.out]
      exact ⟨rfl, HM.out⟩

set_option maxHeartbeats 4000000 in
theorem rnamed_any (p : Option Addr) (l : List Pm) (cap : Nat) (d : Int) (w : World) (h : PmS w p l) (hsz : l.length * 16 ≤ 140737488355328) :
    Calls Tryd.prog 34 #[.slice p l.length cap, .int .i64 d] w fun e w' => e = .returned (.bool (namedP l d)) ∧ w = w' := by
  have HS := Lib.hid h
  have H0 : Hid (namedP l d = namedP (l.drop 0) d) := rfl
  clear h
  go_enter Tryd.func34, Tryd.ntmps34
  go_wp2_with fail
  go_loopw [5] (fun v wr => ∃ i : Nat, v = .int .i64 i ∧ i ≤ l.length ∧ namedP l d = namedP (l.drop i) d ∧ wr = w) (fun v _ => l.length - (intOf v).toNat)
  case atStart => exact ⟨0, rfl, Nat.zero_le _, H0.out, rfl⟩
  case round =>
    obtain ⟨i, rfl, hi, hgo, rfl⟩ := hrel
    by_cases hlt : i < l.length
    · have hlt' : (i : Int) < l.length := by omega
      obtain ⟨q, hq⟩ : ∃ q, l[i]? = some q := ⟨_, List.getElem?_eq_getElem hlt⟩
      obtain ⟨b, off, rfl, _, x0, x1, x2⟩ := HS.out.cellsAt hq
      rw [namedP_at hq] at hgo
      clear hq
      by_cases hqd : q.dom = d
      · have dq : (q.dom == d) = true := beq_iff_eq.2 hqd
        rw [dq, Bool.true_or] at hgo
        have HGO := Lib.hid hgo
        clear hgo hqd
        go_wp2_with fail
        go_ret
        rw [HGO.out]
        exact ⟨rfl, rfl⟩
      · have dq : (q.dom == d) = false := beq_eq_false_iff_ne.2 hqd
        rw [dq, Bool.false_or] at hgo
        have HGO := Lib.hid hgo
        clear hgo hqd
        go_wp2
        go_roundw
        case rel => exact ⟨i + 1, by go_num, by omega, HGO.out, by trivial⟩
        case measure => simp [intOf]; omega
    · have hlt' : ¬ (i : Int) < l.length := by omega
      have hn : l.drop i = [] := List.drop_of_length_le (by omega)
      rw [hn] at hgo
      have HGO : Hid (namedP l d = false) := hgo
      clear hgo hn
      go_wp2_with fail
      go_ret
      rw [HGO.out]
      exact ⟨rfl, rfl⟩

end Go.Proofs.YthchkhfnhhpleaaDoor
