/- PhysParts: the row, out of the walk. -/
import Derived.Test.YthfkpbfapkpnfabLaw01Parts
import Derived.Test.YthfkpbfapkpnfabRowKit
import Derived.Test.YthfkpbfapkpnfabRows
namespace Go.Proofs.Ythfkpbfapkpnfab.physParts
open Go.ChangeShapes Go.WideShapes Go.ChangeAt Go.RowKit
set_option maxRecDepth 100000 in
theorem lifted (os : Os) (started : os.Started) (H : Type) (enc : TypeId × Value → H) :
    ReturnsInHanded {} Try.checked os 4 .any (Rows.physPartsSpec.pre6 enc Try.prog Try.f4 Rows.physPartsRow.domain false) (Rows.physPartsSpec.post enc Try.prog Try.f4 false true false false) := by
  refine returnsInHanded_of_change_sized (C := Try.checked) row_own started (by kernel_rfl) Try.func4
    (ChangeSpec.witness6 (enc := enc) (C := Try.checked) false ⟨#[], #[.int .i64 0, .slice none 0 0], []⟩ 8 (by kernel_rfl) (by kernel_rfl) (by kernel_rfl) (by kernel_rfl)) ?_
  intro W base args ds gs before hval0 hW hcnd hsz0 _
  have hval : ∀ (j : Nat) t v, Try.f4.params[j]? = some t → args[j]? = some v → Value.okWide Try.prog W .any base t v := hval0
  have hW' := hW
  obtain ⟨p, q, hA0, hV, rfl, hfz, hnd⟩ := hW
  have hA : DataW.TrodAll enc Try.prog W 0 (fun _ => true) true Try.f4.params.toList args.toList ds p := hA0
  rw [Try.params4] at hA hval
  obtain ⟨v0, vs0, d0, ds0, p0, q0, hargs, rfl, rfl, h0, r0⟩ := trodAll_cons hA
  obtain ⟨v1, vs1, d1, ds1, p1, q1, rfl, rfl, rfl, h1, r1⟩ := trodAll_cons r0
  obtain ⟨rfl, rfl, rfl⟩ := trodAll_nil r1
  obtain rfl : args = #[v0, v1] := by cases args; simp_all
  obtain ⟨rfl, rfl⟩ := trodVars_none hV
  simp only [List.append_nil] at hsz0
  obtain ⟨a0, rfl, rfl, rfl, w0⟩ := open_int Try.underlying3 (hval 0 3 v0 rfl rfl) h0
  have hall1 := List.all_eq_true.1 hsz0
  obtain ⟨q1, cap1, ops1, rfl, _, hops1, hscr1⟩ := open_script (hval 1 45 v1 rfl rfl) h1 (fun n hn => by
    have h1 := hall1 n (DataW.weights_mem_each (j := 1) (t := 45) (by rw [Try.params4]; rfl) rfl n hn)
    have h2 := reachBytes_lt
    have h3 : n ≤ reachBytes := by simpa using h1
    omega)
  clear hA0 hval0 hsz0
  refine (parts_any a0 q1 ops1 cap1 W hscr1 hops1).mono fun e W' ⟨he, hm⟩ => ?_
  subst he
  have bel := hm.no_below
  have hlt1 : ∀ x ∈ p1, x.block < W.heap.size := fun x hx => by simpa using hW'.lt x (by simp [hx])
  exact ⟨_, rfl, _, _, _, [], _, [], hW', trodAll_mk1 (shut_bool Try.underlying4 _), (trodAll_cons_mk (shut_int Try.underlying3 w0) (trodAll_cons_mk (Below.trod row_laid (by kernel_rfl) (of_decide_eq_true (by kernel_rfl)) h1 bel hlt1) trodAll_mk0)), rfl, bel.frame _, fun h => by cases h⟩
theorem over : Rows.physPartsRow.holds Try.pinned (OpenSpec.ofChange Rows.physPartsSpec) :=
  OpenClaim.holds_of_wide 4 Try.f4 rfl rfl rfl rfl rfl rfl rfl ⟨rfl, rfl, rfl, rfl, rfl⟩ rfl rfl rfl rfl rfl (by kernel_rfl) Try.func4 (by kernel_rfl)
    (of_decide_eq_true (by kernel_rfl)) (by unfold Func.isWrapper; first | (rw [if_pos (by decide +kernel)]; kernel_rfl) | (rw [if_neg (by decide +kernel)]; exact ⟨rfl, rfl⟩))
    (fun os started H enc _ => lifted os started H enc)
end Go.Proofs.Ythfkpbfapkpnfab.physParts
namespace Go.Proofs.Ythfkpbfapkpnfab
theorem physParts_holds : Rows.PhysPartsSaid := physParts.over
#print axioms physParts_holds
end Go.Proofs.Ythfkpbfapkpnfab
