/- PhysRefs: the row, out of the walk. -/
import Derived.Test.YthfkpbfapkpnfaaLaw01Refs2
import Derived.Test.YthfkpbfapkpnfaaRowKit
import Derived.Test.YthfkpbfapkpnfaaRows
namespace Go.Proofs.Ythfkpbfapkpnfaa.physRefs
open Go.ChangeShapes Go.WideShapes Go.ChangeAt Go.RowKit
set_option maxRecDepth 100000 in
theorem lifted (os : Os) (started : os.Started) (H : Type) (enc : TypeId × Value → H) :
    ReturnsInHanded {} Try.checked os 14 .any (Rows.physRefsSpec.pre6 enc Try.prog Try.f14 Rows.physRefsRow.domain false) (Rows.physRefsSpec.post enc Try.prog Try.f14 false true false false) := by
  refine returnsInHanded_of_change_sized (C := Try.checked) row_own started (by kernel_rfl) Try.func14
    (ChangeSpec.witness6 (enc := enc) (C := Try.checked) false ⟨#[], #[.slice none 0 0, .slice none 0 0], []⟩ 8 (by kernel_rfl) (by kernel_rfl) (by kernel_rfl) (by kernel_rfl)) ?_
  intro W base args ds gs before hval0 hW hcnd hsz0 _
  have hval : ∀ (j : Nat) t v, Try.f14.params[j]? = some t → args[j]? = some v → Value.okWide Try.prog W .any base t v := hval0
  have hW' := hW
  obtain ⟨p, q, hA0, hV, rfl, hfz, hnd⟩ := hW
  have hA : DataW.TrodAll enc Try.prog W 0 (fun _ => true) true Try.f14.params.toList args.toList ds p := hA0
  rw [Try.params14] at hA hval
  obtain ⟨v0, vs0, d0, ds0, p0, q0, hargs, rfl, rfl, h0, r0⟩ := trodAll_cons hA
  obtain ⟨v1, vs1, d1, ds1, p1, q1, rfl, rfl, rfl, h1, r1⟩ := trodAll_cons r0
  obtain ⟨rfl, rfl, rfl⟩ := trodAll_nil r1
  obtain rfl : args = #[v0, v1] := by cases args; simp_all
  obtain ⟨rfl, rfl⟩ := trodVars_none hV
  simp only [List.append_nil] at hsz0
  obtain ⟨q0, len0, cap0, bs0, rfl, hl0, _, _, hd0, hr0, hp0⟩ := open_nums (hval 0 92 v0 rfl rfl) h0
  have hszq0 : len0 * 8 ≤ 140737488355328 := by
    rcases hd0 with ⟨_, h⟩ | ⟨es, sp, h, hlen⟩
    · omega
    · subst h
      have h1 := sized_slice (j := 0) (t := 92) (e := 3) (P := Try.prog) hsz0 (by rw [Try.params14]; rfl) rfl Try.underlying92
      rw [row_bytesInt] at h1
      have h2 := reachBytes_lt
      omega
  obtain ⟨q1, len1, cap1, bs1, rfl, hl1, _, _, hsrc1, hp1⟩ := open_bytes (hval 1 49 v1 rfl rfl) h1
  clear hA0 hval0 hsz0
  refine (refs_any q0 len0 cap0 bs0 q1 len1 cap1 bs1 W hsrc1 hl1 hl0 hszq0 hp0).mono fun e W' ⟨he, hm⟩ => ?_
  subst he
  have bel := hm.no_below
  have hlt0 : ∀ x ∈ p0, x.block < W.heap.size := fun x hx => by simpa using hW'.lt x (by simp [hx])
  have hlt1 : ∀ x ∈ p1, x.block < W.heap.size := fun x hx => by simpa using hW'.lt x (by simp [hx])
  exact ⟨_, rfl, _, _, _, [], _, [], hW', trodAll_mk1 (shut_bool Try.underlying4 _), (trodAll_cons_mk (Below.trod row_laid (by kernel_rfl) (of_decide_eq_true (by kernel_rfl)) h0 bel hlt0) (trodAll_cons_mk (Below.trod row_laid (by kernel_rfl) (of_decide_eq_true (by kernel_rfl)) h1 bel hlt1) trodAll_mk0)), rfl, bel.frame _, fun h => by cases h⟩
theorem over : Rows.physRefsRow.holds Try.pinned (OpenSpec.ofChange Rows.physRefsSpec) :=
  OpenClaim.holds_of_wide 14 Try.f14 rfl rfl rfl rfl rfl rfl rfl ⟨rfl, rfl, rfl, rfl, rfl⟩ rfl rfl rfl rfl rfl (by kernel_rfl) Try.func14 (by kernel_rfl)
    (of_decide_eq_true (by kernel_rfl)) (by unfold Func.isWrapper; first | (rw [if_pos (by decide +kernel)]; kernel_rfl) | (rw [if_neg (by decide +kernel)]; exact ⟨rfl, rfl⟩))
    (fun os started H enc _ => lifted os started H enc)
end Go.Proofs.Ythfkpbfapkpnfaa.physRefs
namespace Go.Proofs.Ythfkpbfapkpnfaa
theorem physRefs_holds : Rows.PhysRefsSaid := physRefs.over
#print axioms physRefs_holds
end Go.Proofs.Ythfkpbfapkpnfaa
