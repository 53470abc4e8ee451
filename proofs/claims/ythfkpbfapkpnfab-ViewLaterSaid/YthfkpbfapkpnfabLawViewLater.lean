/- ViewLater: the row, out of the walk. -/
import Derived.Test.YthfkpbfapkpnfabLaw02Later
import Derived.Test.YthfkpbfapkpnfabRowKit
import Derived.Test.YthfkpbfapkpnfabRows
namespace Go.Proofs.Ythfkpbfapkpnfab.viewLater
open Go.ChangeShapes Go.WideShapes Go.ChangeAt Go.RowKit
set_option maxRecDepth 100000 in
theorem lifted (os : Os) (started : os.Started) (H : Type) (enc : TypeId × Value → H) :
    ReturnsInHanded {} Try.checked os 9 .any (Rows.viewLaterSpec.pre6 enc Try.prog Try.f9 Rows.viewLaterRow.domain false) (Rows.viewLaterSpec.post enc Try.prog Try.f9 false true false false) := by
  refine returnsInHanded_of_change_sized (C := Try.checked) row_own started (by kernel_rfl) Try.func9
    (ChangeSpec.witness6 (enc := enc) (C := Try.checked) false ⟨#[], #[.slice none 0 0, .slice none 0 0, .slice none 0 0, .slice none 0 0, .int .u8 0], []⟩ 8 (by kernel_rfl) (by kernel_rfl) (by kernel_rfl) (by kernel_rfl)) ?_
  intro W base args ds gs before hval0 hW hcnd hsz0 _
  have hval : ∀ (j : Nat) t v, Try.f9.params[j]? = some t → args[j]? = some v → Value.okWide Try.prog W .any base t v := hval0
  have hW' := hW
  obtain ⟨p, q, hA0, hV, rfl, hfz, hnd⟩ := hW
  have hA : DataW.TrodAll enc Try.prog W 0 (fun _ => true) true Try.f9.params.toList args.toList ds p := hA0
  rw [Try.params9] at hA hval
  obtain ⟨v0, vs0, d0, ds0, p0, q0, hargs, rfl, rfl, h0, r0⟩ := trodAll_cons hA
  obtain ⟨v1, vs1, d1, ds1, p1, q1, rfl, rfl, rfl, h1, r1⟩ := trodAll_cons r0
  obtain ⟨v2, vs2, d2, ds2, p2, q2, rfl, rfl, rfl, h2, r2⟩ := trodAll_cons r1
  obtain ⟨v3, vs3, d3, ds3, p3, q3, rfl, rfl, rfl, h3, r3⟩ := trodAll_cons r2
  obtain ⟨v4, vs4, d4, ds4, p4, q4, rfl, rfl, rfl, h4, r4⟩ := trodAll_cons r3
  obtain ⟨rfl, rfl, rfl⟩ := trodAll_nil r4
  obtain rfl : args = #[v0, v1, v2, v3, v4] := by cases args; simp_all
  obtain ⟨rfl, rfl⟩ := trodVars_none hV
  simp only [List.append_nil] at hsz0
  have hall0 := List.all_eq_true.1 hsz0
  obtain ⟨q0, cap0, ops0, rfl, _, hops0, hscr0⟩ := open_StDs_arg (hval 0 60 v0 rfl rfl) h0 (fun n hn => by
    have h1 := hall0 n (DataW.weights_mem_each (j := 0) (t := 60) (by rw [Try.params9]; rfl) rfl n hn)
    have h2 := reachBytes_lt
    have h3 : n ≤ reachBytes := by simpa using h1
    omega)
  have hall1 := List.all_eq_true.1 hsz0
  obtain ⟨q1, cap1, ops1, rfl, _, hops1, hscr1⟩ := open_Pks_arg (hval 1 61 v1 rfl rfl) h1 (fun n hn => by
    have h1 := hall1 n (DataW.weights_mem_each (j := 1) (t := 61) (by rw [Try.params9]; rfl) rfl n hn)
    have h2 := reachBytes_lt
    have h3 : n ≤ reachBytes := by simpa using h1
    omega)
  have hall2 := List.all_eq_true.1 hsz0
  obtain ⟨q2, cap2, ops2, rfl, _, hops2, hscr2⟩ := open_Pks_arg (hval 2 61 v2 rfl rfl) h2 (fun n hn => by
    have h1 := hall2 n (DataW.weights_mem_each (j := 2) (t := 61) (by rw [Try.params9]; rfl) rfl n hn)
    have h2 := reachBytes_lt
    have h3 : n ≤ reachBytes := by simpa using h1
    omega)
  have hall3 := List.all_eq_true.1 hsz0
  obtain ⟨q3, cap3, ops3, rfl, _, hops3, hscr3⟩ := open_VOps_arg (hval 3 75 v3 rfl rfl) h3 (fun n hn => by
    have h1 := hall3 n (DataW.weights_mem_each (j := 3) (t := 75) (by rw [Try.params9]; rfl) rfl n hn)
    have h2 := reachBytes_lt
    have h3 : n ≤ reachBytes := by simpa using h1
    omega)
  obtain ⟨a4, rfl, rfl, rfl, w4⟩ := open_int Try.underlying5 (hval 4 5 v4 rfl rfl) h4
  clear hA0 hval0 hsz0
  refine (later_any q0 ops0 cap0 q1 ops1 cap1 q2 ops2 cap2 q3 ops3 cap3 a4 (bounds_u8 w4) W hscr0 hops0 hscr1 (pk_nil h1) hops1 hscr2 hops2 hscr3 hops3).mono fun e W' ⟨he, hm⟩ => ?_
  subst he
  have bel := hm.no_below
  have hlt0 : ∀ x ∈ p0, x.block < W.heap.size := fun x hx => by simpa using hW'.lt x (by simp [hx])
  have hlt1 : ∀ x ∈ p1, x.block < W.heap.size := fun x hx => by simpa using hW'.lt x (by simp [hx])
  have hlt2 : ∀ x ∈ p2, x.block < W.heap.size := fun x hx => by simpa using hW'.lt x (by simp [hx])
  have hlt3 : ∀ x ∈ p3, x.block < W.heap.size := fun x hx => by simpa using hW'.lt x (by simp [hx])
  exact ⟨_, rfl, _, _, _, [], _, [], hW', trodAll_mk1 (shut_bool Try.underlying4 _), (trodAll_cons_mk (Below.trod row_laid (by kernel_rfl) (of_decide_eq_true (by kernel_rfl)) h0 bel hlt0) (trodAll_cons_mk (Below.trod row_laid (by kernel_rfl) (of_decide_eq_true (by kernel_rfl)) h1 bel hlt1) (trodAll_cons_mk (Below.trod row_laid (by kernel_rfl) (of_decide_eq_true (by kernel_rfl)) h2 bel hlt2) (trodAll_cons_mk (Below.trod row_laid (by kernel_rfl) (of_decide_eq_true (by kernel_rfl)) h3 bel hlt3) (trodAll_cons_mk (shut_int Try.underlying5 w4) trodAll_mk0))))), rfl, bel.frame _, fun h => by cases h⟩
theorem over : Rows.viewLaterRow.holds Try.pinned (OpenSpec.ofChange Rows.viewLaterSpec) :=
  OpenClaim.holds_of_wide 9 Try.f9 rfl rfl rfl rfl rfl rfl rfl ⟨rfl, rfl, rfl, rfl, rfl⟩ rfl rfl rfl rfl rfl (by kernel_rfl) Try.func9 (by kernel_rfl)
    (of_decide_eq_true (by kernel_rfl)) (by unfold Func.isWrapper; first | (rw [if_pos (by decide +kernel)]; kernel_rfl) | (rw [if_neg (by decide +kernel)]; exact ⟨rfl, rfl⟩))
    (fun os started H enc _ => lifted os started H enc)
end Go.Proofs.Ythfkpbfapkpnfab.viewLater
namespace Go.Proofs.Ythfkpbfapkpnfab
theorem viewLater_holds : Rows.ViewLaterSaid := viewLater.over
#print axioms viewLater_holds
end Go.Proofs.Ythfkpbfapkpnfab
