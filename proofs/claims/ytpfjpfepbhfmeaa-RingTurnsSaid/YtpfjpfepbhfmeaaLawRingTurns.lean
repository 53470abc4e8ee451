/- RingTurns: the row, out of the walk. -/
import Derived.Test.YtpfjpfepbhfmeaaLaw08Turns
import Derived.Test.YtpfjpfepbhfmeaaRowKit
import Derived.Test.YtpfjpfepbhfmeaaRows
namespace Go.Proofs.Ytpfjpfepbhfmeaa.ringTurns
open Go.ChangeShapes Go.WideShapes Go.ChangeAt Go.RowKit
set_option maxRecDepth 100000 in
theorem lifted (os : Os) (started : os.Started) (H : Type) (enc : TypeId × Value → H) :
    ReturnsInHanded {} Try.checked os 13 .any (Rows.ringTurnsSpec.pre6 enc Try.prog Try.f13 Rows.ringTurnsRow.domain false) (Rows.ringTurnsSpec.post enc Try.prog Try.f13 false true false false) := by
  refine returnsInHanded_of_change_sized (C := Try.checked) row_own started (by kernel_rfl) Try.func13
    (ChangeSpec.witness6 (enc := enc) (C := Try.checked) false ⟨#[], #[.slice none 0 0], []⟩ 8 (by kernel_rfl) (by kernel_rfl) (by kernel_rfl) (by kernel_rfl)) ?_
  intro W base args ds gs before hval0 hW hcnd hsz0 _
  have hval : ∀ (j : Nat) t v, Try.f13.params[j]? = some t → args[j]? = some v → Value.okWide Try.prog W .any base t v := hval0
  have hW' := hW
  obtain ⟨p, q, hA0, hV, rfl, hfz, hnd⟩ := hW
  have hA : DataW.TrodAll enc Try.prog W 0 (fun _ => true) true Try.f13.params.toList args.toList ds p := hA0
  rw [Try.params13] at hA hval
  obtain ⟨v0, vs0, d0, ds0, p0, q0, hargs, rfl, rfl, h0, r0⟩ := trodAll_cons hA
  obtain ⟨rfl, rfl, rfl⟩ := trodAll_nil r0
  obtain rfl : args = #[v0] := by cases args; simp_all
  obtain ⟨rfl, rfl⟩ := trodVars_none hV
  simp only [List.append_nil] at hsz0
  have hall0 := List.all_eq_true.1 hsz0
  obtain ⟨q0, cap0, bs0, rfl, hb0⟩ := open_byt_arg (hval 0 31 v0 rfl rfl) h0 (fun n hn => by
    have h1 := hall0 n (DataW.weights_mem_each (j := 0) (t := 31) (by rw [Try.params13]; rfl) rfl n hn)
    have h2 := reachBytes_lt
    have h3 : n ≤ reachBytes := by simpa using h1
    omega)
  clear hA0 hval0 hsz0
  refine (rturns_any q0 bs0 cap0 W hb0).mono fun e W' ⟨he, hm⟩ => ?_
  subst he
  have bel := hm.no_below
  have hlt0 : ∀ x ∈ p0, x.block < W.heap.size := fun x hx => by simpa using hW'.lt x (by simp [hx])
  exact ⟨_, rfl, _, _, _, [], _, [], hW', trodAll_mk1 (shut_bool Try.underlying4 _), (trodAll_cons_mk (Below.trod row_laid (by kernel_rfl) (of_decide_eq_true (by kernel_rfl)) h0 bel hlt0) trodAll_mk0), rfl, bel.frame _, fun h => by cases h⟩
theorem over : Rows.ringTurnsRow.holds Try.pinned (OpenSpec.ofChange Rows.ringTurnsSpec) :=
  OpenClaim.holds_of_wide 13 Try.f13 rfl rfl rfl rfl rfl rfl rfl ⟨rfl, rfl, rfl, rfl, rfl⟩ rfl rfl rfl rfl rfl (by kernel_rfl) Try.func13 (by kernel_rfl)
    (of_decide_eq_true (by kernel_rfl)) (by unfold Func.isWrapper; first | (rw [if_pos (by decide +kernel)]; kernel_rfl) | (rw [if_neg (by decide +kernel)]; exact ⟨rfl, rfl⟩))
    (fun os started H enc _ => lifted os started H enc)
end Go.Proofs.Ytpfjpfepbhfmeaa.ringTurns
namespace Go.Proofs.Ytpfjpfepbhfmeaa
theorem ringTurns_holds : Rows.RingTurnsSaid := ringTurns.over
#print axioms ringTurns_holds
end Go.Proofs.Ytpfjpfepbhfmeaa
