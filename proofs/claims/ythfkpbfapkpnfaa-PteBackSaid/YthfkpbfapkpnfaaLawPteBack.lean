/- PteBack: what can be packed is unpacked as itself, and an address is its parts together, for every entry and every address. No condition. -/
import Derived.Test.YthfkpbfapkpnfaaRows
import Derived.Test.YthfkpbfapkpnfaaPPteBackx2
import Derived.Test.YthfkpbfapkpnfaaBitFacts
import Derived.WalkKit
import Derived.ProofKit
import Derived.OpenShut
import Derived.ShutString
import Derived.ChangeOld
import Derived.Below
import Derived.Carry
import Derived.SizedLaws
import Derived.Lib.SmallJoins
namespace Go.Proofs.Ythfkpbfapkpnfaa.PteBackLaw
open Go.RowKit Go.Proofs.Ythfkpbfapkpnfaa.PPteBack

theorem back_awake : tenementlaw04_awake.f 1 = some true := by decide +kernel

theorem split_join (v : Int) (h0 : 0 ≤ v) (h1 : v ≤ 4294967295) : tenementlaw04_PteBack.j0 2 v = some true := by
  simp only [tenementlaw04_PteBack.j0]
  unfold pte_Split.f
  rw [BitFacts.and63 _ (by omega) (by omega), BitFacts.and255 _ h0 h1]
  have w (x : Int) (hx : 0 ≤ x) (hy : x ≤ 4294967295) : wrap64 x = x := by unfold wrap64; omega
  by_cases h : v / 1048576 = 0
  · rw [if_pos h, w (v / 16384) (by omega) (by omega), w (v / 256 % 64) (by omega) (by omega), w (v % 256) (by omega) (by omega)]
    simp only [Option.bind_some, if_true]
    unfold pte_Join.f
    rw [if_neg (show ¬ v / 16384 < 0 by omega), if_neg (show ¬ v / 16384 ≥ 64 by omega), if_neg (show ¬ v / 256 % 64 < 0 by omega), if_neg (show ¬ v / 256 % 64 ≥ 64 by omega),
      if_neg (show ¬ v % 256 < 0 by omega), if_neg (show ¬ v % 256 ≥ 256 by omega)]
    have e1 : (v / 16384 % 4294967296) * 16384 % 4294967296 = v / 16384 * 16384 := by omega
    have e2 : (v / 256 % 64 % 4294967296) * 256 % 4294967296 = v / 256 % 64 * 256 := by omega
    have e3 : v % 256 % 4294967296 = v % 256 := by omega
    rw [e1, e2, e3, BitFacts.or_sum (v / 16384 * 16384) (v / 256 % 64 * 256) 14 (by omega) (by omega) (by omega) (by omega) (by omega) (by omega)]
    rw [BitFacts.or_sum (v / 16384 * 16384 + v / 256 % 64 * 256) (v % 256) 8 (by omega) (by omega) (by omega) (by omega) (by omega) (by omega)]
    have e4 : v / 16384 * 16384 + v / 256 % 64 * 256 + v % 256 = v := by omega
    rw [e4]
    simp [back_awake]
  · rw [if_neg h]
    simp
    omega

theorem packs (p w : Bool) (n : Int) : pte_Pack.f 2 p w n = some (if n < 0 ∨ n ≥ 16777216 then (0, 1) else
    if p then (n * 256 + 1 + (if w then 2 else 0), 0) else if w then (0, 1) else if n = 0 then (0, 0) else (0, 1)) := by
  simp only [pte_Pack.f, pte_Pack.j0]
  by_cases c1 : n < 0
  · simp [c1]
  by_cases c2 : n ≥ 16777216
  · simp [c1, c2]
  simp only [c1, c2, or_self, if_false]
  have e0 : n % 4294967296 * 256 % 4294967296 = n * 256 := by omega
  have o1 : Go.bits .or .u32 (n * 256) 1 = n * 256 + 1 := BitFacts.or_sum _ 1 8 (by omega) (by omega) (by omega) (by omega) (by omega) (by decide)
  have o2 : Go.bits .or .u32 (n * 256) 2 = n * 256 + 2 := BitFacts.or_sum _ 2 8 (by omega) (by omega) (by omega) (by omega) (by omega) (by decide)
  have o3 : Go.bits .or .u32 (n * 256 + 1) 2 = n * 256 + 3 := by
    have h := Go.u32_or (n * 256 + 1) 2 (by omega) (by omega) (by omega) (by omega)
    have j1 : (n * 256 + 1).toNat = (n * 256).toNat ||| 1 := by rw [Go.nat_join 8 _ 1 (by omega) (by decide)]; omega
    rw [h, j1, Nat.or_assoc, show (1 ||| (2 : Int).toNat) = 3 from rfl, Go.nat_join 8 _ 3 (by omega) (by decide)]; omega
  rw [e0, o1, o2, o3]
  cases p <;> cases w <;> simp
  · by_cases h : n = 0 <;> simp [h]
  · omega

theorem unpacks (b : Bool) (n : Int) (h0 : 0 ≤ n) (h1 : n < 16777216) : pte_Unpack.f (n * 256 + 1 + (if b then 2 else 0)) = some (true, b, n, 0) := by
  have w (x : Int) (hx : 0 ≤ x) (hy : x ≤ 4294967295) : wrap64 x = x := by unfold wrap64; omega
  unfold pte_Unpack.f
  cases b <;> simp only [Bool.false_eq_true, if_false, if_true]
  all_goals
    rw [BitFacts.and1 _ (by omega) (by omega), BitFacts.and2 _ (by omega) (by omega), if_neg (by omega), if_pos ((BitFacts.and252 _ (by omega) (by omega)).2 (by omega)), w _ (by omega) (by omega)]
  · have e1 : (n * 256 + 1 + 0) / 2 % 2 * 2 = 0 := by omega
    have e2 : (n * 256 + 1 + 0) / 256 = n := by omega
    rw [e1, e2]; rfl
  · have e1 : (n * 256 + 1 + 2) / 2 % 2 * 2 = 2 := by omega
    have e2 : (n * 256 + 1 + 2) / 256 = n := by omega
    rw [e1, e2]; rfl

theorem unpack0 : pte_Unpack.f 0 = some (false, false, 0, 0) := by decide +kernel

theorem pure (p b : Bool) (n v : Int) (hv : (Lit.int .u32 v).wf = true) : tenementlaw04_PteBack.f 2 p b n v = some true := by
  have bv := bounds_u32 hv
  have hj := split_join v bv.1 bv.2
  unfold tenementlaw04_PteBack.f
  rw [packs]
  by_cases c : n < 0 ∨ n ≥ 16777216
  · simp [c, hj]
  cases p
  · cases b
    · by_cases hz : n = 0
      · subst hz; simp [unpack0, hj]
      · simp [c, hz, hj]
    · simp [c, hj]
  · rw [if_neg c]
    simp only [if_true, Option.bind_some]
    rw [unpacks b n (by omega) (by omega)]
    simp [hj]
end Go.Proofs.Ythfkpbfapkpnfaa.PteBackLaw
namespace Go.Proofs.Ythfkpbfapkpnfaa.pteBack
open Go.ChangeShapes Go.WideShapes Go.ChangeAt Go.RowKit Go.Joins
theorem own : ownKnob Try.prog.godebug = none := by kernel_rfl
theorem cells27 : Try.prog.cellsOf 27 = 3 := by kernel_rfl
set_option maxRecDepth 100000 in
theorem lifted (os : Os) (started : os.Started) (H : Type) (enc : TypeId × Value → H) :
    ReturnsInHanded {} Try.checked os 8 .any (Rows.pteBackSpec.pre6 enc Try.prog Try.f8 Rows.pteBackRow.domain false) (Rows.pteBackSpec.post enc Try.prog Try.f8 false true false false) := by
  refine returnsInHanded_of_change_sized (C := Try.checked) own started (by kernel_rfl) Try.func8
    (ChangeSpec.witness6 (enc := enc) (C := Try.checked) false ⟨#[], #[.agg #[.bool false, .bool false, .int .i64 0], .int .u32 0], []⟩ 8 (by kernel_rfl) (by kernel_rfl) (by kernel_rfl) (by kernel_rfl)) ?_
  intro W base args ds gs before hval0 hW hcnd hsz0 _
  have hval : ∀ (j : Nat) t v, Try.f8.params[j]? = some t → args[j]? = some v → Value.okWide Try.prog W .any base t v := hval0
  have hW' := hW
  obtain ⟨p, q, hA0, hV, rfl, hfz, hnd⟩ := hW
  have hA : DataW.TrodAll enc Try.prog W 0 (fun _ => true) true Try.f8.params.toList args.toList ds p := hA0
  rw [Try.params8] at hA hval
  obtain ⟨v0, vs0, d0, ds0, p0, q0, hargs, rfl, rfl, h0, r0⟩ := trodAll_cons hA
  obtain ⟨v1, vs1, d1, ds1, p1, q1, rfl, rfl, rfl, h1, r1⟩ := trodAll_cons r0
  obtain ⟨rfl, rfl, rfl⟩ := trodAll_nil r1
  obtain rfl : args = #[v0, v1] := by cases args; simp_all
  obtain ⟨rfl, rfl⟩ := trodVars_none hV
  obtain ⟨c0, c1, c2, y0, y1, y2, m, rfl, rfl, rfl, hy0, hy1, hy2⟩ := open_agg3 Try.underlying27 (by kernel_rfl) cells27 (hval 0 27 v0 rfl rfl) h0
  obtain ⟨va, rfl, rfl, rfl, wva⟩ := open_int Try.underlying28 (hval 1 28 v1 rfl rfl) h1
  obtain ⟨a, e0, rfl⟩ := DataW.trod_bool Try.underlying4 hy0
  obtain ⟨b, e1, rfl⟩ := DataW.trod_bool Try.underlying4 hy1
  obtain ⟨n, e2, rfl, wn⟩ := DataW.trod_int Try.underlying3 hy2
  simp at e0 e1 e2
  subst e0 e1 e2
  clear hA0 hval0 hsz0
  have structReads : ∀ (W' : World) (sp : Nat → Bool), DataW.Trod enc Try.prog W' 0 sp true 27 (.agg #[.bool a, .bool b, .int .i64 n]) (.agg [.lit (.bool a), .lit (.bool b), .lit (.int .i64 n)]) [] := fun W' sp =>
    shut_agg3 (y0 := (.lit (.bool a), [])) (y1 := (.lit (.bool b), [])) (y2 := (.lit (.int .i64 n), [])) Try.underlying27 (by kernel_rfl) cells27
      ⟨1, by simp [DataW.trod, Try.underlying4]⟩ ⟨1, by simp [DataW.trod, Try.underlying4]⟩ ⟨1, by simp [DataW.trod, Try.underlying3, wn]⟩
  refine (PPteBack.tenementlaw04_PteBack.calls 2 a b n va true W (PteBackLaw.pure a b n va wva)).mono fun e W' ⟨he, bel⟩ => ?_
  subst he
  exact ⟨_, rfl, _, _, _, [], _, [], hW', trodAll_mk1 (shut_bool Try.underlying4 _), (trodAll_cons_mk (structReads _ _) (trodAll_cons_mk (shut_int Try.underlying28 wva) trodAll_mk0)), rfl, bel.frame _, fun h => by cases h⟩
theorem over : Rows.pteBackRow.holds Try.pinned (OpenSpec.ofChange Rows.pteBackSpec) :=
  OpenClaim.holds_of_wide 8 Try.f8 rfl rfl rfl rfl rfl rfl rfl ⟨rfl, rfl, rfl, rfl, rfl⟩ rfl rfl rfl rfl rfl (by kernel_rfl) Try.func8 (by kernel_rfl)
    (of_decide_eq_true (by kernel_rfl)) (by unfold Func.isWrapper; first | (rw [if_pos (by decide +kernel)]; kernel_rfl) | (rw [if_neg (by decide +kernel)]; exact ⟨rfl, rfl⟩))
    (fun os started H enc _ => lifted os started H enc)
end Go.Proofs.Ythfkpbfapkpnfaa.pteBack
namespace Go.Proofs.Ythfkpbfapkpnfaa
/-- The row, under a short name, for the claim. -/
theorem pteBack_holds : Rows.PteBackSaid := pteBack.over
#print axioms pteBack_holds
end Go.Proofs.Ythfkpbfapkpnfaa
