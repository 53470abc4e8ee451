/- tenementref01: Owned, Left, Alloc. -/
import Derived.Test.YthfkpbfapkpnfabRef
import Derived.Test.YthfkpbfapkpnfabPhysOwned
import Derived.Test.YthfkpbfapkpnfabPhysMore
import Derived.OwnWalk
import Derived.RegionTactic
import Derived.ChangeAlike
namespace Go.Proofs.Ythfkpbfapkpnfab
open Go.RowKit
set_option maxRecDepth 100000

set_option maxHeartbeats 800000 in
theorem rowned_in {K : RfK} {S : List Fr} (o : Int) (w : World) (h : RfM w K S) :
    Calls Try.prog 77 #[.pointer (some ⟨K.R, 0, none⟩), .int .i64 o] w fun e W' => ∃ v, e = .returned v ∧
      W'.ownsRow w.heap.size 3 1 v (idxs S o S.length).length ((idxs S o S.length).map (Value.int .i64)) ∧ Below w.heap.size w W' := by
  obtain ⟨i0, hi, hz0, hz1, hz2⟩ := info_parts Try.infoInt
  have hlen := h.len
  go_enter Try.func77, Try.ntmps77
  go_wp2_with fail
  go_loopw [5, 6] (fun vl v wr => ∃ k : Nat, k ≤ S.length ∧ v = .int .i64 k ∧ wr.ownsRow w.heap.size 3 1 vl (idxs S o k).length ((idxs S o k).map (Value.int .i64)) ∧ Below w.heap.size w wr) (fun _ v _ => S.length - (intOf v).toNat)
  case atStart => exact ⟨0, Nat.zero_le _, rfl, World.ownsRow_nil _ _ _ _, Below.refl _ _⟩
  case round =>
    obtain ⟨k, hk, rfl, hown, hB⟩ := hrel
    have hR := h.kept (Mod.of_below (P := No) hB) (fun _ _ q => q)
    obtain ⟨c, hc, hF⟩ := hR.cF
    obtain ⟨q, cp, rfl⟩ := owns_slice hown
    by_cases hlt : k < S.length
    · obtain ⟨f, hf⟩ : ∃ f, S[k]? = some f := ⟨S[k], by simp [hlt]⟩
      have hcl := hR.cH hf 0 (by omega)
      simp only [Nat.add_zero, Fr.head, List.getElem?_cons_zero] at hcl
      by_cases hq : f.owner = o
      · have hht : ownsAt S o k = true := by simp [ownsAt, hf, hq]
        have HM := Lib.hid hht; clear hht
        have d1 : (f.owner == o) = true := beq_iff_eq.2 hq
        clear hq
        have hpl := idxs_len S o k
        have hsz := hB.size
        go_wp2_with (at_builtin; refine wpList_append_own _ rfl _ _ 42 rfl w.heap.size 3 i0 (.int .i64 0) 1 8 Try.underlying42 hi hz0 hz1 hz2 rfl (by decide) _ _ _ rfl (hown.alloc _) ⟨wr.heap.size, 0, none⟩ 1 1 [.int .i64 (k : Int)] rfl rfl (cell_one_new _ _ _) (by simp [Value.oneCell']) (by unfold maxLen; omega) (by omega) (by simp; omega) ?_; intro v' w7 hown' hgrow _)
        go_roundw
        case rel =>
          refine ⟨k + 1, by omega, by go_num, ?_, (hB.alloc (by omega) _).grown hgrow (by simp; omega) (fun j ej => by have := (hown.lt j ej).1; omega)⟩
          rw [idxs_hit HM.out]
          simpa using hown'
        case measure => simp [intOf]; omega
      · have hms : ownsAt S o k = false := by simp [ownsAt, hf, hq]
        have HM := Lib.hid hms; clear hms
        have d1 : (f.owner == o) = false := beq_eq_false_iff_ne.2 hq
        clear hq
        go_wp2
        go_roundw
        case rel => exact ⟨k + 1, by omega, by go_num, by rw [idxs_miss HM.out]; exact hown, hB⟩
        case measure => simp [intOf]; omega
    · obtain rfl : k = S.length := by omega
      go_wp2
      go_ret
      exact ⟨_, rfl, hown, hB⟩

theorem rleft_in {K : RfK} {S : List Fr} (w : World) (h : RfM w K S) :
    Calls Try.prog 81 #[.pointer (some ⟨K.R, 0, none⟩)] w fun e W' => e = .returned (.int .i64 (idxs S (-1) S.length).length) ∧ Below w.heap.size w W' := by
  go_enter Try.func81, Try.ntmps81
  go_wp2_with (go_at_call 77; refine (rowned_in (-1) _ h).mono ?_; rintro e w' ⟨v, rfl, hv, hb⟩; obtain ⟨g, cap, rfl⟩ := owns_slice hv)
  go_ret
  exact ⟨rfl, hb⟩

theorem ralloc_arg {K : RfK} (o : Int) (w : World) (ho : (o < 0 ∨ 8 ≤ o) ∧ o ≠ -2) :
    Calls Try.prog 32 #[.pointer (some ⟨K.R, 0, none⟩), .int .i64 o] w fun e w' => e = .returned (.tuple #[.int .i64 0, .int .i64 1]) ∧ w = w' := by
  have d1 : (o != -2) = true := bne_iff_ne.2 ho.2
  have hd := ho.1
  clear ho
  go_enter Try.func32, Try.ntmps32
  go_wp2_with (go_at_call 76; refine (rdomain_no o _ hd).mono ?_; rintro e w' ⟨rfl, rfl⟩)
  go_ret2
  exact ⟨rfl, rfl⟩

set_option maxHeartbeats 800000 in
theorem ralloc_full {K : RfK} {S : List Fr} (o : Int) (w : World) (h : RfM w K S) (ho : (0 ≤ o ∧ o < 8) ∨ o = -2) (hk : idxs S (-1) S.length = []) :
    Calls Try.prog 32 #[.pointer (some ⟨K.R, 0, none⟩), .int .i64 o] w fun e w' => e = .returned (.tuple #[.int .i64 0, .int .i64 10]) ∧ Mod No w w' := by
  have hO : Hid (∀ w, RfM w K S → Calls Try.prog 77 #[.pointer (some ⟨K.R, 0, none⟩), .int .i64 (-1)] w fun e W' => ∃ q cap, e = .returned (.slice q 0 cap) ∧ Mod No w W') := by
    intro w h
    refine (rowned_in (-1) w h).mono ?_
    rintro e w' ⟨v, rfl, hv, hb⟩
    obtain ⟨g, cap, rfl⟩ := owns_slice hv
    rw [hk]
    exact ⟨_, _, rfl, Mod.of_below hb⟩
  clear hk
  have hdo : Hid (∀ w, (0 ≤ o ∧ o < 8) → Calls Try.prog 76 #[.int .i64 o] w fun e w' => e = .returned (.bool true) ∧ w = w') := fun w q => rdomain_yes o w q.1 q.2
  rcases ho with ho | rfl
  · go_enter Try.func32, Try.ntmps32
    go_wp2_with (first
      | (go_at_call 76; refine (hdo.out _ ho).mono ?_; rintro e w' ⟨rfl, rfl⟩)
      | (go_at_call 77; refine (hO.out _ h).mono ?_; rintro e w' ⟨q, cap, rfl, hm⟩))
    go_ret2
    exact ⟨rfl, hm⟩
  · go_enter Try.func32, Try.ntmps32
    go_wp2_with (first
      | (go_at_call 76; refine (rdomain_no (-2) _ (.inl (by omega))).mono ?_; rintro e w' ⟨rfl, rfl⟩)
      | (go_at_call 77; refine (hO.out _ h).mono ?_; rintro e w' ⟨q, cap, rfl, hm⟩))
    go_ret2
    exact ⟨rfl, hm⟩

theorem row_item {W : World} {b : Nat} {e : TypeId} {v : Value} {k : Nat} {xs : List Int} (h : W.ownsRow b e 1 v k (xs.map (Value.int .i64))) (j : Nat) (x : Int) (hj : xs[j]? = some x) :
    ∃ g cap, v = .slice (some ⟨g, 0, none⟩) k cap ∧ j < k ∧ k ≤ cap ∧ b ≤ g ∧ W.cell? ⟨g, j, none⟩ = some (.int .i64 x) := by
  have hl := h.1
  simp at hl
  have hjl := (List.getElem?_eq_some_iff.1 hj).1
  rcases h.2 with ⟨rfl, h2⟩ | ⟨g, cap, cur, rfl, hg, hr, hc, hm, hs, ht⟩
  · omega
  · refine ⟨g, cap, rfl, by omega, hc, hg, ?_⟩
    have := h.cells (g := g) rfl j (.int .i64 x) (by simp [hj])
    rwa [Addr.add_lit, Nat.zero_add] at this

set_option maxHeartbeats 800000 in
theorem ralloc_some {K : RfK} {S : List Fr} (o : Int) (w : World) (h : RfM w K S) (ho : (0 ≤ o ∧ o < 8) ∨ o = -2) {k : Nat} {f : Fr} {r : List Int} (hk : idxs S (-1) S.length = (k : Int) :: r) (hf : S[k]? = some f) :
    Calls Try.prog 32 #[.pointer (some ⟨K.R, 0, none⟩), .int .i64 o] w fun e w' =>
      e = .returned (.tuple #[.int .i64 k, .int .i64 0]) ∧ Mod K.inn w w' ∧ RfM w' K (S.set k { f with owner := o }) := by
  have hlt : k < S.length := (List.getElem?_eq_some_iff.1 hf).1
  have hO : Hid (∀ w, RfM w K S → Calls Try.prog 77 #[.pointer (some ⟨K.R, 0, none⟩), .int .i64 (-1)] w fun e W' => ∃ g n cap, e = .returned (.slice (some ⟨g, 0, none⟩) n cap) ∧ Mod No w W' ∧ 0 < n ∧ n ≤ cap ∧ w.heap.size ≤ g ∧ W'.cell? ⟨g, 0, none⟩ = some (.int .i64 k)) := by
    intro w h
    refine (rowned_in (-1) w h).mono ?_
    rintro e w' ⟨v, rfl, hv, hb⟩
    obtain ⟨g, cap, rfl, hj, hc, hg, hcl⟩ := row_item hv 0 k (by rw [hk]; rfl)
    exact ⟨_, _, _, rfl, Mod.of_below hb, hj, hc, hg, hcl⟩
  clear hk
  have main : ∀ w1 : World, RfM w1 K S → Hid (RfM (w1.setCell ⟨K.G, k * 4, none⟩ (.int .i64 o)) K (S.set k { f with owner := o }) ∧ Mod K.inn w1 (w1.setCell ⟨K.G, k * 4, none⟩ (.int .i64 o))) :=
    fun w1 h1 => h1.setH (f' := { f with owner := o }) hf rfl 0 (by omega) (v := .int .i64 o) rfl
  have hdo : Hid (∀ w, Calls Try.prog 76 #[.int .i64 o] w fun e w' => (∃ b, e = .returned (.bool b) ∧ (b = true ∨ (o != -2) = false)) ∧ w = w') := by
    intro w
    rcases ho with ho | rfl
    · exact (rdomain_yes o w ho.1 ho.2).mono (by rintro e w' ⟨rfl, rfl⟩; exact ⟨⟨_, rfl, .inl rfl⟩, rfl⟩)
    · exact (rdomain_no (-2) w (.inl (by omega))).mono (by rintro e w' ⟨rfl, rfl⟩; exact ⟨⟨_, rfl, .inr rfl⟩, rfl⟩)
  clear ho
  go_enter Try.func32, Try.ntmps32
  go_wp2_with fail
  refine (hdo.out _).mono ?_
  rintro e w1 ⟨⟨b, rfl, hb⟩, rfl⟩
  cases b
  all_goals try simp only [Bool.false_eq_true, false_or, true_or] at hb
  all_goals
    go_wp2_with (go_at_call 77; refine (hO.out _ h).mono ?_; rintro e w1 ⟨g, n, cap, rfl, hm1, hn, hnc, hg, hc0⟩; have h1 := h.keptNo hm1; obtain ⟨c, hc, hF⟩ := h1.cF; have hfz := h1.fH (k * 4); have hcl := h1.cH hf 0 (by omega); simp only [Nat.add_zero, Fr.head, List.getElem?_cons_zero] at hcl)
    have hlG := h.lt K.G (.inr (.inl rfl))
    have hn1 : g ≠ K.G := by omega
    have hn2 : K.G ≠ g := by omega
    have hk0 : (0 : Int) ≤ k := by omega
    have hkl : (k : Int) < S.length := by omega
    have hn0 : (0 : Int) < n := by omega
    go_region
    go_wp2
    go_ret2
    obtain ⟨hR2, hM2⟩ := (main w1 h1).out
    exact ⟨rfl, ((Mod.of_no hm1).trans hM2).drew, hR2.keptNo ((Mod.refl No _).drew)⟩

end Go.Proofs.Ythfkpbfapkpnfab
