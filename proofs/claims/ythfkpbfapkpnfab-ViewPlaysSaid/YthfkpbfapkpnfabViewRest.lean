/- Rest: how many rewrites are still due, the code's and the document's. -/
import Derived.Test.YthfkpbfapkpnfabRefVOps
namespace Go.Proofs.Ythfkpbfapkpnfab
open Go.RowKit Go.Maps
set_option maxRecDepth 100000

def restN (l : List Pk) (N : Int) : Nat := (l.filter fun p => decide (N ≤ p.at_)).length
/-- Of those whose keys have come. -/
def restC (l : List Pk) (N : Int) (left : Lit → Bool) : Nat := (l.filter fun p => decide (N ≤ p.at_) && !left (.int .i64 p.at_)).length

theorem restC_le (l : List Pk) (N : Int) (left : Lit → Bool) : restC l N left ≤ l.length := List.length_filter_le _ _
theorem restC_end (l : List Pk) (N : Int) (left : Lit → Bool) (h : ∀ k, left k = false) : restC l N left = restN l N := by
  unfold restC restN; congr 1; apply List.filter_congr; intro p _; simp [h]

theorem restC_start : ∀ (l : List Pk) (N : Int) (left : Lit → Bool), (∀ p ∈ l, left (.int .i64 p.at_) = true) → restC l N left = 0
  | [], _, _, _ => rfl
  | p :: l, N, left, h => by
    have ih := restC_start l N left (fun q hq => h q (by simp [hq]))
    unfold restC at ih ⊢
    rw [List.filter_cons, h p (by simp)]
    simpa using ih

theorem restC_step : ∀ (l : List Pk) (N x : Int) (left : Lit → Bool), left (.int .i64 x) = true →
    restC l N (fun z => left z && !z.sameKey (.int .i64 x)) = restC l N left + if N ≤ x then (dueAt l x).length else 0
  | [], _, _, _, _ => by simp [restC, dueAt]
  | p :: l, N, x, left, h => by
    have ih := restC_step l N x left h
    unfold restC dueAt at ih ⊢
    dsimp only at ih
    simp only [List.filter_cons]
    by_cases e : p.at_ = x
    · subst e
      have hf : (left (.int .i64 p.at_) && !(Lit.int IntKind.i64 p.at_).sameKey (.int .i64 p.at_)) = false := by simp [Lit.sameKey]
      rw [hf, h, if_pos (show (p.at_ == p.at_) = true by simp)]
      by_cases hN : N ≤ p.at_
      · rw [if_pos (by simp [hN]), if_neg (by simp), if_pos hN, List.length_cons, List.length_cons]
        rw [if_pos hN] at ih
        omega
      · rw [if_neg (by simp [hN]), if_neg (by simp), if_neg hN]
        rw [if_neg hN] at ih
        omega
    · have hs : (Lit.int IntKind.i64 p.at_).sameKey (.int .i64 x) = false := sameKey_ne (by simpa using e)
      have e2 : (p.at_ == x) = false := beq_eq_false_iff_ne.2 e
      simp only [hs, e2, Bool.not_false, Bool.and_true, Bool.false_eq_true, if_false] at ih ⊢
      by_cases hN : (decide (N ≤ p.at_) && !left (.int .i64 p.at_)) = true
      · rw [if_pos hN, if_pos hN]
        simp only [List.length_cons]
        omega
      · rw [if_neg hN, if_neg hN]
        omega

set_option maxHeartbeats 4000000 in
theorem vrest_in {base top B : Nat} {k : ViK} {N : Int} {l : List Pk} (w : World) (hv : ViM w base top k B N l) (hl : l.length ≤ 140737488355328) :
    Calls Try.prog 43 #[.pointer (some ⟨k.V, 0, none⟩)] w fun e w' => e = .returned (.int .i64 (restN l N : Int)) ∧ Mod No w w' := by
  obtain ⟨h0, h1, h2, h3⟩ := hv.c0
  obtain ⟨nd, D, sl, cl, hd, hnl, _, hcl⟩ := hv.d.due
  have hstart : ∀ p ∈ l, has D (.int .i64 p.at_) = true := by
    intro p hp
    cases hh : has D (.int .i64 p.at_) with
    | true => rfl
    | false =>
      have h1 := (hd.not_has hh).2
      have h2 := (hcl p.at_).1
      rw [h1] at h2
      have h3 : p ∈ dueAt l p.at_ := List.mem_filter.2 ⟨hp, by simp⟩
      rw [List.eq_nil_of_length_eq_zero h2.symm] at h3
      cases h3
  have hVD : k.V ≠ k.D := by
    intro e
    obtain ⟨es, ck, hb, _⟩ := hd.map
    have := hv.head
    rw [e, hb] at this; cases this
  have HOWN := Lib.hid hd.map
  have HD := Lib.hid hd
  have HCL := Lib.hid hcl
  have HV := Lib.hid hv
  have HST := Lib.hid (restC_start l N (has D) hstart)
  clear hd hcl hv hstart hnl
  go_enter Try.func43, Try.ntmps43
  go_wp2_with (first
    | (go_at_call 80; refine (vnone_made k.V B _ h0).mono ?_; rintro e w' ⟨rfl, rfl⟩)
    | (at_range; refine wpList_range_own _ rfl _ 136 rfl 3 139 lawInt Try.underlying136 sliceElem k.D nd D rfl HOWN.out ?_; intro w0 hrg0 hg0 hs0))
  go_frame
  go_loopw [3] (fun v wr => ∃ (left : Lit → Bool) (cnt : Nat), wr.ranges Try.prog 3 sliceElem k.D w.heap.size nd D left cnt ∧ w.grownBy wr none ∧ v = .int .i64 (restC l N left : Int)) (fun _ wr => wr.rangeLeft k.D w.heap.size)
  case atStart => exact ⟨_, _, hrg0, hg0, by rw [HST.out]; rfl⟩
  case round =>
    obtain ⟨left, cnt, hrg, hgw, rfl⟩ := hrel
    have x2 := (World.cell?_of_block (hgw.block k.V (World.block_lt_of_cell? w _ h2) (by simp))).trans h2
    have hrc := restC_le l N left
    have HRG := Lib.hid hrg
    go_wp2_with (at_next; refine wpList_next_ranges (α := Int) (β := Option Addr × Nat × Nat) _ rfl _ rfl 3 lawInt sliceElem (Value.int .i64) (fun c => .slice c.1 c.2.1 c.2.2) (fun key kl hkey => by obtain ⟨x, rfl, _⟩ := Maps.keyOf_int_inv Try.underlying3 hkey; exact ⟨x, rfl⟩) (fun v y hv => sliceElem_shape hv) k.D w.heap.size nd D left cnt rfl hrg ?_ ?_)
    · intro _ hl0
      go_wp2
      go_ret
      exact ⟨by rw [restC_end l N left hl0]; rfl, (Mod.refl No w).grown hgw (fun k e => by cases e)⟩
    · intro x c1 c2 c3 kl yd yp w1 cnt1 hkey hlk hvy hat hrg1 hlt hg1 hs1 hen
      obtain ⟨x', ex, rfl, hwx⟩ := Maps.keyOf_int_inv Try.underlying3 hkey
      cases ex
      obtain rfl := sliceElem_places hvy
      have hsx : sl x = .slice c1 c2 c3 := by
        have h1 := HD.out.read x
        rw [hat .nil] at h1
        exact sliceElem_inj h1 hvy
      have hcn : c2 = (dueAt l x).length := by
        have h1 := HD.out.row x
        rw [hsx] at h1
        rw [← (HCL.out x).1]
        rcases h1.2 with ⟨e, h0⟩ | ⟨g, cap, cur, e, _⟩
        · cases e; exact h0.symm
        · cases e; rfl
      have hst := restC_step l N x left hlk
      have hrc2 := restC_le l N (fun z => left z && !z.sameKey (.int .i64 x))
      have x21 := (World.cell?_of_block (hg1.block k.V (World.block_lt_of_cell? wr _ x2) (by have hq := World.block_lt_of_cell? w _ h2; intro hz; exact absurd (Option.some.inj hz) (Nat.ne_of_lt hq)))).trans x2
      have hgw1 := hgw.andThen hg1 (fun j hj => by cases hj; exact Or.inl (Nat.le_refl _))
      subst hcn
      have HST2 := Lib.hid hst
      have HG1 := Lib.hid hgw1
      have HR1 := Lib.hid hrg1
      clear hst hgw1 hrg1 hsx hat hvy hlk hgw hrg hg1 hs1 x2
      by_cases hNx : N ≤ x
      · have hst2 : restC l N (fun z => left z && !z.sameKey (.int .i64 x)) = restC l N left + (dueAt l x).length := by rw [HST2.out, if_pos hNx]
        have d1 : decide (N ≤ x) = true := decide_eq_true hNx
        have hb : restC l N left + (dueAt l x).length ≤ l.length := by omega
        have HS3 := Lib.hid hst2
        clear hst2
        go_wp2
        go_roundw
        case rel => exact ⟨_, cnt1, HR1.out, HG1.out, by rw [HS3.out]; go_num⟩
        case measure => rw [HR1.out.left_eq, HRG.out.left_eq]; exact hlt
      · have hst2 : restC l N (fun z => left z && !z.sameKey (.int .i64 x)) = restC l N left := by rw [HST2.out, if_neg hNx]; rfl
        have d1 : decide (N ≤ x) = false := decide_eq_false hNx
        have HS3 := Lib.hid hst2
        clear hst2
        go_wp2
        go_roundw
        case rel => exact ⟨_, cnt1, HR1.out, HG1.out, by rw [HS3.out]⟩
        case measure => rw [HR1.out.left_eq, HRG.out.left_eq]; exact hlt

/-- The document's. -/
theorem rvrest_in {X : Nat} {K : RfK} {q : Option Addr} {cap : Nat} {l : List Pk} {N : Int} (w : World) (hs : PkS w q l) (hx : RvM w X K q cap l N) (hl : l.length ≤ 140737488355328) :
    Calls Try.prog 44 #[.pointer (some ⟨X, 0, none⟩)] w fun e w' => e = .returned (.int .i64 (restN l N : Int)) ∧ Mod No w w' := by
  have HX := Lib.hid hx
  have HS := Lib.hid hs
  clear hx hs
  obtain ⟨y0, y1, y2, _⟩ := HX.out.c
  go_enter Try.func44, Try.ntmps44
  go_wp2_with fail
  go_loopw [3, 4] (fun n v wr => ∃ i : Nat, i ≤ l.length ∧ v = .int .i64 i ∧ n = .int .i64 (restN (l.take i) N : Int) ∧ Mod No w wr) (fun _ v _ => l.length - (intOf v).toNat)
  case atStart => exact ⟨0, Nat.zero_le _, rfl, rfl, Mod.refl _ _⟩
  case round =>
    obtain ⟨i, hi, rfl, rfl, hm⟩ := hrel
    obtain ⟨x0, x1, x2, _⟩ := (HX.out.kept hm (fun q => q)).c
    by_cases hlt : i < l.length
    · obtain ⟨p, hp⟩ : ∃ p, l[i]? = some p := ⟨_, List.getElem?_eq_getElem hlt⟩
      obtain ⟨sb, so, rfl, hsb, c0, c1, c2, c3⟩ := (HS.out.kept hm).cellsAt hp
      have hrn : restN (l.take (i + 1)) N = restN (l.take i) N + if N ≤ p.at_ then 1 else 0 := by
        unfold restN
        rw [List.take_add_one, hp, List.filter_append, List.length_append]
        congr 1
        by_cases e : N ≤ p.at_ <;> simp [e]
      have hrb : restN (l.take i) N ≤ i := by
        have h1 : restN (l.take i) N ≤ (l.take i).length := List.length_filter_le _ _
        rw [List.length_take] at h1; omega
      have b3 : (0 : Int) ≤ i := by omega
      have b4 : (i : Int) < l.length := by omega
      have HM := Lib.hid hm
      clear hm hp y0 y1 y2
      by_cases e : N ≤ p.at_
      · rw [if_pos e] at hrn
        have d1 : decide (N ≤ p.at_) = true := decide_eq_true e
        have HRN := Lib.hid hrn
        clear hrn
        go_wp2_with fail
        go_quiet (fail)
        go_wp2
        go_roundw
        case rel => exact ⟨i + 1, by omega, by go_num, by rw [HRN.out]; go_num, HM.out.drewN _⟩
        case measure => simp [intOf]; omega
      · rw [if_neg e] at hrn
        have d1 : decide (N ≤ p.at_) = false := decide_eq_false e
        have HRN := Lib.hid hrn
        clear hrn
        go_wp2_with fail
        go_quiet (fail)
        go_wp2
        go_roundw
        case rel => exact ⟨i + 1, by omega, by go_num, by rw [HRN.out]; rfl, HM.out.drewN _⟩
        case measure => simp [intOf]; omega
    · obtain rfl : i = l.length := by omega
      have e : restN (l.take l.length) N = restN l N := by rw [List.take_length]
      rw [e]
      go_wp2
      go_ret
      exact ⟨rfl, hm⟩

end Go.Proofs.Ythfkpbfapkpnfab
