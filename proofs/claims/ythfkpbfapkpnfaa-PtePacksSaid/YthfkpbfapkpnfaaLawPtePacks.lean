/- PtePacks: the two ways of packing an entry agree, for every entry. No condition. -/
import Derived.Test.YthfkpbfapkpnfaaRows
import Derived.Test.YthfkpbfapkpnfaaPPteBackx2
import Derived.Test.YthfkpbfapkpnfaaRefPack
import Derived.Test.YthfkpbfapkpnfaaBitFacts
import Derived.WalkKit
import Derived.ProofKit
import Derived.OpenShut
import Derived.ShutString
import Derived.ChangeOld
import Derived.Below
import Derived.Carry
import Derived.SizedLaws
import Derived.Lib.SmallJoins
import Derived.Lib.Hide
namespace Go.Proofs.Ythfkpbfapkpnfaa.PtePacksLaw
open Go.RowKit Go.Proofs.Ythfkpbfapkpnfaa.PPteBack Go.Proofs.Ythfkpbfapkpnfaa.RefPack

theorem packs_awake : tenementlaw04_awake.f 1 = some true := by decide +kernel

theorem packs_same (p w : Bool) (n : Int) : pte_Pack.f 1 p w n = some ((packR p w n).1, (packR p w n).2) := by
  unfold pte_Pack.f pte_Pack.j0 packR
  by_cases c1 : n < 0
  · simp [c1]
  by_cases c2 : n ≥ 16777216
  · simp [c1, c2]
  simp only [if_neg c1, if_neg c2]
  have e0 : n % 4294967296 * 256 % 4294967296 = n * 256 := by omega
  have o1 : Go.bits .or .u32 (n * 256) 1 = n * 256 + 1 := BitFacts.or_sum _ 1 8 (by omega) (by omega) (by omega) (by omega) (by omega) (by decide)
  have o2 : Go.bits .or .u32 (n * 256) 2 = n * 256 + 2 := BitFacts.or_sum _ 2 8 (by omega) (by omega) (by omega) (by omega) (by omega) (by decide)
  have o3 : Go.bits .or .u32 (n * 256 + 1) 2 = n * 256 + 3 := by
    have h := Go.u32_or (n * 256 + 1) 2 (by omega) (by omega) (by omega) (by omega)
    have j1 : (n * 256 + 1).toNat = (n * 256).toNat ||| 1 := by rw [Go.nat_join 8 _ 1 (by omega) (by decide)]; omega
    rw [h, j1, Nat.or_assoc, show (1 ||| (2 : Int).toNat) = 3 from rfl, Go.nat_join 8 _ 3 (by omega) (by decide)]; omega
  rw [e0, o1, o2, o3]
  cases p <;> cases w <;> simp
  · by_cases h : n = 0 <;> simp [h]
  · omega

set_option maxHeartbeats 400000 in
theorem walk (p b : Bool) (n : Int) (w : World) :
    Calls Try.prog 4 #[.agg #[.bool p, .bool b, .int .i64 n]] w fun e w' => e = .returned (.bool true) ∧ Below w.heap.size w w' := by
  have h1 := pte_Pack.calls 1 p b n _ _ ((w.alloc (.cells #[.bool p, .bool b, .int .i64 n] 27))) (packs_same p b n)
  have h2 := ref_pack p b n
  generalize (packR p b n).1 = x at h1 h2
  generalize (packR p b n).2 = y at h1 h2
  have H1 := Lib.hid h1; clear h1
  have H2 := Lib.hid h2; clear h2
  go_enter Try.func4, Try.ntmps4
  go_wp2_with fail
  refine H1.out.mono ?_
  rintro e w1 ⟨rfl, hb1⟩
  have c0 : w1.cell? ⟨w.heap.size, 0, none⟩ = some (.bool p) := (hb1.cell (by simp)).trans (by simp)
  have c1 : w1.cell? ⟨w.heap.size, 1, none⟩ = some (.bool b) := (hb1.cell (by simp)).trans (by simp)
  have c2 : w1.cell? ⟨w.heap.size, 2, none⟩ = some (.int .i64 n) := (hb1.cell (by simp)).trans (by simp)
  go_wp2_with fail
  refine (H2.out _).mono ?_
  rintro e w2 ⟨rfl, hb2⟩
  go_wp2_with fail
  refine (tenementlaw04_awake.calls 1 true _ packs_awake).mono ?_
  rintro e w3 ⟨rfl, hb3⟩
  go_wp2
  go_ret
  exact ⟨rfl, (((Below.refl _ _).alloc (Nat.le_refl _) _).trans (hb1.mono (by simp))).trans ((hb2.mono (by have := hb1.size; simp at this; omega)).trans (hb3.mono (by have := hb1.size; have := hb2.size; simp at *; omega)))⟩
end Go.Proofs.Ythfkpbfapkpnfaa.PtePacksLaw
namespace Go.Proofs.Ythfkpbfapkpnfaa.ptePacks
open Go.ChangeShapes Go.WideShapes Go.ChangeAt Go.RowKit Go.Joins
theorem own : ownKnob Try.prog.godebug = none := by kernel_rfl
theorem cells27 : Try.prog.cellsOf 27 = 3 := by kernel_rfl
set_option maxRecDepth 100000 in
theorem lifted (os : Os) (started : os.Started) (H : Type) (enc : TypeId × Value → H) :
    ReturnsInHanded {} Try.checked os 4 .any (Rows.ptePacksSpec.pre6 enc Try.prog Try.f4 Rows.ptePacksRow.domain false) (Rows.ptePacksSpec.post enc Try.prog Try.f4 false true false false) := by
  refine returnsInHanded_of_change_sized (C := Try.checked) own started (by kernel_rfl) Try.func4
    (ChangeSpec.witness6 (enc := enc) (C := Try.checked) false ⟨#[], #[.agg #[.bool false, .bool false, .int .i64 0]], []⟩ 8 (by kernel_rfl) (by kernel_rfl) (by kernel_rfl) (by kernel_rfl)) ?_
  intro W base args ds gs before hval0 hW hcnd hsz0 _
  have hval : ∀ (j : Nat) t v, Try.f4.params[j]? = some t → args[j]? = some v → Value.okWide Try.prog W .any base t v := hval0
  have hW' := hW
  obtain ⟨p, q, hA0, hV, rfl, hfz, hnd⟩ := hW
  have hA : DataW.TrodAll enc Try.prog W 0 (fun _ => true) true Try.f4.params.toList args.toList ds p := hA0
  rw [Try.params4] at hA hval
  obtain ⟨v0, vs0, d0, ds0, p0, q0, hargs, rfl, rfl, h0, r0⟩ := trodAll_cons hA
  obtain ⟨rfl, rfl, rfl⟩ := trodAll_nil r0
  obtain rfl : args = #[v0] := by cases args; simp_all
  obtain ⟨rfl, rfl⟩ := trodVars_none hV
  obtain ⟨c0, c1, c2, y0, y1, y2, m, rfl, rfl, rfl, hy0, hy1, hy2⟩ := open_agg3 Try.underlying27 (by kernel_rfl) cells27 (hval 0 27 v0 rfl rfl) h0
  obtain ⟨a, e0, rfl⟩ := DataW.trod_bool Try.underlying4 hy0
  obtain ⟨b, e1, rfl⟩ := DataW.trod_bool Try.underlying4 hy1
  obtain ⟨n, e2, rfl, wn⟩ := DataW.trod_int Try.underlying3 hy2
  simp at e0 e1 e2
  subst e0 e1 e2
  clear hA0 hval0 hsz0
  have structReads : ∀ (W' : World) (sp : Nat → Bool), DataW.Trod enc Try.prog W' 0 sp true 27 (.agg #[.bool a, .bool b, .int .i64 n]) (.agg [.lit (.bool a), .lit (.bool b), .lit (.int .i64 n)]) [] := fun W' sp =>
    shut_agg3 (y0 := (.lit (.bool a), [])) (y1 := (.lit (.bool b), [])) (y2 := (.lit (.int .i64 n), [])) Try.underlying27 (by kernel_rfl) cells27
      ⟨1, by simp [DataW.trod, Try.underlying4]⟩ ⟨1, by simp [DataW.trod, Try.underlying4]⟩ ⟨1, by simp [DataW.trod, Try.underlying3, wn]⟩
  refine (PtePacksLaw.walk a b n W).mono fun e W' ⟨he, bel⟩ => ?_
  subst he
  exact ⟨_, rfl, _, _, _, [], _, [], hW', trodAll_mk1 (shut_bool Try.underlying4 _), (trodAll_cons_mk (structReads _ _) trodAll_mk0), rfl, bel.frame _, fun h => by cases h⟩
theorem over : Rows.ptePacksRow.holds Try.pinned (OpenSpec.ofChange Rows.ptePacksSpec) :=
  OpenClaim.holds_of_wide 4 Try.f4 rfl rfl rfl rfl rfl rfl rfl ⟨rfl, rfl, rfl, rfl, rfl⟩ rfl rfl rfl rfl rfl (by kernel_rfl) Try.func4 (by kernel_rfl)
    (of_decide_eq_true (by kernel_rfl)) (by unfold Func.isWrapper; first | (rw [if_pos (by decide +kernel)]; kernel_rfl) | (rw [if_neg (by decide +kernel)]; exact ⟨rfl, rfl⟩))
    (fun os started H enc _ => lifted os started H enc)
end Go.Proofs.Ythfkpbfapkpnfaa.ptePacks
namespace Go.Proofs.Ythfkpbfapkpnfaa
/-- The row, under a short name, for the claim. -/
theorem ptePacks_holds : Rows.PtePacksSaid := ptePacks.over
#print axioms ptePacks_holds
end Go.Proofs.Ythfkpbfapkpnfaa
