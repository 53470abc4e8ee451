/- ConsPlays: the row, out of the walk. -/
import Derived.Test.YtmdeljacbekbpaaDoorLaw16Plays
import Derived.Test.YtmdeljacbekbpaaDoorRowKit
import Derived.Test.YtmdeljacbekbpaaDoorRows
import Derived.Test.YtmdeljacbekbpaaDoorTie
import Derived.Test.YtmdeljacbekbpaaDoorCards
import Derived.LaidMore
import Derived.Lay
import Derived.SevenTiedAt
import Derived.Stop.Joined
import Derived.Deep.DeepHandedRow
import Derived.Test.YtmdeljacbekbpaaDoorBulk
import Derived.Test.YtmdeljacbekbpaaDoorBulkByt
import Derived.Test.YtmdeljacbekbpaaDoorBulkCOp
namespace Go.Proofs.YtmdeljacbekbpaaDoor.consPlays
open Go.ChangeShapes Go.WideShapes Go.ChangeAt Go.RowKit
theorem laid_met (os : Os) : laidMet Tryd.prog Rows.consPlaysUptoRow.laid ((World.laidAll Tryd.prog os Rows.consPlaysUptoRow.laid).forCall (fun _ _ => 0) ⟨#[], #[Value.int .i64 0, Value.slice none 0 0], []⟩).memory :=
  laidMet_laidAll _ (by kernel_rfl) (by kernel_rfl)
set_option maxRecDepth 100000 in
theorem witness (os : Os) {H : Type} (enc : TypeId × Value → H) :
    (Rows.OpenSpec.upto Rows.consPlaysSpec).preRow enc Tryd.prog Tryd.f8 Rows.consPlaysUptoRow.domain false Rows.consPlaysUptoRow.laid ((World.laidAll Tryd.prog os Rows.consPlaysUptoRow.laid).forCall (fun _ _ => 0) ⟨#[], #[Value.int .i64 0, Value.slice none 0 0], []⟩).memory #[Value.int .i64 0, Value.slice none 0 0] := by
  have hw : (DataW.whole enc Tryd.prog ((World.laidAll Tryd.prog os Rows.consPlaysUptoRow.laid).forCall (fun _ _ => 0) ⟨#[], #[Value.int .i64 0, Value.slice none 0 0], []⟩).memory Tryd.f8.params.toList (Rows.OpenSpec.upto Rows.consPlaysSpec).vars false #[Value.int .i64 0, Value.slice none 0 0].toList 8).map (fun x => (x.1, x.2.1)) = some ([.lit (.int .i64 0), .nil], []) := by kernel_rfl
  obtain ⟨⟨x1, x2, x3⟩, hx, hx1⟩ := Option.map_eq_some_iff.1 hw
  simp only [Prod.mk.injEq] at hx1
  obtain ⟨rfl, rfl⟩ := hx1
  exact OpenSpec.preRow_of_cond 8 hx (by kernel_rfl) (fun k hk => by cases hk; kernel_rfl) (by kernel_rfl) (laid_met os)
set_option maxRecDepth 100000 in
theorem lifted (os : Os) (started : os.Started) (H : Type) (enc : TypeId × Value → H) (F : Stop.Interp) :
    ReturnsInHanded {} Tryd.checked os 8 .any ((Rows.OpenSpec.upto Rows.consPlaysSpec).preRow enc Tryd.prog Tryd.f8 Rows.consPlaysUptoRow.domain false Rows.consPlaysUptoRow.laid) (((Rows.OpenSpec.upto Rows.consPlaysSpec).at F).post enc Tryd.prog Tryd.f8 false true false false) := by
  refine returnsInHanded_of_row (C := Tryd.checked) (s := (Rows.OpenSpec.upto Rows.consPlaysSpec)) row_own started (by kernel_rfl) Tryd.func8
    ⟨World.laidAll Tryd.prog os Rows.consPlaysUptoRow.laid, fun _ _ => 0, ⟨#[], #[Value.int .i64 0, Value.slice none 0 0], []⟩, World.laidAll_os _ _ _, World.shaped_of_ZipB (by kernel_rfl) (by kernel_rfl), rfl, (Input.okWide_of_okWideB (by kernel_rfl)).2, witness os enc, by
      simp only [Assume.holds]
      exact ⟨by simp, by simp, fun _ => Modest.zero, by simp, by simp⟩⟩ ?_
  intro W base args ds gs before hval0 hW hcnd hcond hsz0 hlaid _ _
  have hbk := bulks.bound (hcond _ rfl)
  have hval : ∀ (j : Nat) t v, Tryd.f8.params[j]? = some t → args[j]? = some v → Value.okWide Tryd.prog W .any base t v := hval0
  have hW' := hW
  obtain ⟨p, q, hA0, hV, rfl, hfz, hnd⟩ := hW
  have hA : DataW.TrodAll enc Tryd.prog W 0 (fun _ => true) true Tryd.f8.params.toList args.toList ds p := hA0
  rw [Tryd.params8] at hA hval
  obtain ⟨v0, vs0, d0, ds0, p0, q0, hargs, rfl, rfl, h0, r0⟩ := trodAll_cons hA
  obtain ⟨v1, vs1, d1, ds1, p1, q1, rfl, rfl, rfl, h1, r1⟩ := trodAll_cons r0
  obtain ⟨rfl, rfl, rfl⟩ := trodAll_nil r1
  obtain rfl : args = #[v0, v1] := by cases args; simp_all
  obtain ⟨rfl, rfl⟩ := trodVars_none hV
  simp only [List.append_nil] at hsz0 hbk
  obtain ⟨a0, rfl, rfl, rfl, w0⟩ := open_int Tryd.underlying3 (hval 0 3 v0 rfl rfl) h0
  have hall1 := List.all_eq_true.1 hsz0
  obtain ⟨q1, cap1, ops1, rfl, hcp1, hops1, hscr1⟩ := open_COps_arg (hval 1 63 v1 rfl rfl) h1 (fun n hn => by
    have h1 := hall1 n (DataW.weights_mem_each (j := 1) (t := 63) (by rw [Tryd.params8]; rfl) rfl n hn)
    have h2 := reachBytes_lt
    have h3 : n ≤ reachBytes := by simpa using h1
    omega)
  clear hA0 hval0 hsz0
  refine (plays16_any a0 q1 ops1 cap1 W hscr1 (Nat.le_trans (bulk_cop h1) (Nat.le_trans (bulks.part_le (List.mem_cons_of_mem _ (List.mem_singleton_self d1))) hbk)) (tabs16 hlaid (by kernel_rfl))).mono fun e W' ⟨he, hm⟩ => ?_
  subst he
  have bel := hm.no_below
  have hlt1 : ∀ x ∈ p1, x.block < W.heap.size := fun x hx => by simpa using hW'.lt x (by simp [hx])
  exact ⟨_, rfl, _, _, _, [], _, [], hW', trodAll_mk1 (shut_bool Tryd.underlying4 _), (trodAll_cons_mk (shut_int Tryd.underlying3 w0) (trodAll_cons_mk (Below.trod row_laid (by kernel_rfl) (of_decide_eq_true (by kernel_rfl)) h1 bel hlt1) trodAll_mk0)), rfl, bel.frame _, fun h => by cases h⟩
theorem over : Rows.consPlaysUptoRow.holds Tryd.pinned (Rows.OpenSpec.upto Rows.consPlaysSpec) :=
  OpenClaim.holds_of_cond 8 Tryd.f8 rfl rfl rfl rfl rfl rfl rfl ⟨rfl, rfl, rfl, rfl, rfl⟩ rfl rfl rfl rfl rfl (by kernel_rfl) Tryd.func8 (by kernel_rfl)
    (of_decide_eq_true (by kernel_rfl)) (by unfold Func.isWrapper; first | (rw [if_pos (by decide +kernel)]; kernel_rfl) | (rw [if_neg (by decide +kernel)]; exact ⟨rfl, rfl⟩))
    (fun os started H enc _ F => by rw [OpenClaim.pre_eq_preRow]; exact lifted os started H enc F)
end Go.Proofs.YtmdeljacbekbpaaDoor.consPlays
namespace Go.Proofs.YtmdeljacbekbpaaDoor
theorem consPlays_upto : Rows.ConsPlaysUptoCardSaid :=
  Claim7.holds_tied_plain_at .later [] [.data, .pinned] true (true, "2856abf1c3e44f41c901dc4a8902a5191d4f87d888c75032f3a8ae8789f7f8bd") false consPlays.over (fun _ h => by cases h) (by kernel_rfl) (fun _ h => by cases h) consPlaysUpto_row_tie rfl ⟨rfl, rfl⟩ (by kernel_rfl) rfl
    (fun f fn hf hfn => by
      obtain rfl : f = 8 := Option.some.inj ((show Tryd.prog.funcNamed "tenement/tenementlaw16.ConsPlays" = some 8 by kernel_rfl).symm.trans hf) |>.symm
      obtain rfl : fn = Tryd.f8 := (Option.some.inj (Tryd.func8.symm.trans hfn)).symm
      exact ⟨by kernel_rfl, fun j t ht => by
        rw [Tryd.params8] at ht
        have hm : t ∈ [3, 63] := by have := Array.mem_of_getElem? ht; simpa using this
        have hall : ([3, 63].all fun u => !Tryd.prog.wantsStandIn u) = true := by kernel_rfl
        exact (show Tryd.prog.wantsStandIn t = false by simpa using List.all_eq_true.1 hall t hm)⟩)
    (by kernel_rfl)
#print axioms consPlays_upto
end Go.Proofs.YtmdeljacbekbpaaDoor


