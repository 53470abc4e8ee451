/- core.operators: what each number leads to. -/
import Derived.Test.YtlbebneblmgdcaaDoorModBase
import Derived.Maps.Own
import Derived.Maps.OwnSet
import Derived.Maps.OwnOps
import Derived.Maps.Keyed
namespace Go.Proofs.YtlbebneblmgdcaaDoor
open Go.RowKit Go.Maps
set_option maxRecDepth 100000

/-- How a function value reads. -/
def fnElem (v : Value) : Option (DataW Unit × List MemPlace) := match v with | .func (.func f) a b => if a.isEmpty && b.isEmpty then some (.lit (.int .i64 f), []) else none | .nilFunc => some (.nil, []) | _ => none
theorem fnElem_inv {v : Value} {f : Nat} {ps : List MemPlace} (h : fnElem v = some (.lit (.int .i64 f), ps)) : v = .func (.func f) #[] #[] := by
  unfold fnElem at h
  split at h
  · split at h
    · rename_i hab
      simp only [Bool.and_eq_true, Array.isEmpty_iff] at hab
      obtain ⟨rfl, rfl⟩ := hab
      simp at h
      rw [show _ = f from Int.ofNat.inj h.1]
    · cases h
  · simp at h
  · cases h

theorem fnElem_nil {v : Value} {ps : List MemPlace} (h : fnElem v = some (.nil, ps)) : v = .nilFunc := by
  unfold fnElem at h
  split at h
  · split at h <;> simp at h
  · rfl
  · cases h

theorem wpList_insert_own {H : Type} {P : Program} (w : World) {ops : Array Oper} {rest : List Oper} {o : Oper} {a : Act} {Q : Exit → Act → World → Prop}
    (hg : o.guard = none) (m x v : Operand) (t : TypeId) (hop : o.op = Op.insert t m x v)
    (k e : TypeId) (K : Keyed P k) (ht : P.underlying t = some (.map k e)) (R : Value → Option (DataW H × List MemPlace)) (b n : Nat) (D : DataW H)
    (hm : a.eval m = .map (some b)) (hown : w.ownsMap P k R b n D) (hn : n < maxLen) (key val : Value) (kl : Lit) (hx : a.eval x = key) (hv : a.eval v = val) (hkey : keyOf P k key = some kl)
    (d : DataW H) (ps : List MemPlace) (hval : R val = some (d, ps))
    (hK : ∀ w', w'.ownsMap P k R b (n + 1) (D.put kl d) → w.grownBy w' (some b) → wpList P ops Q rest (a.put o.dst undef) w') :
    wpList P ops Q (o :: rest) a w := by
  refine wpList_plain hg fun K' hK' => ?_
  obtain ⟨w', hrun, r1, r2⟩ := hown.update K ht hn hkey hval
  unfold Oper.wp
  simp [execOp, hop, hm, hx, hv, hrun, Result.andThen]
  exact hK' _ _ (hK w' r1 r2)

def opsFn : List Nat := [31, 32, 33, 34, 35, 36, 37, 38, 39, 40, 41, 42, 43, 44, 45, 46, 47, 48, 49, 50, 51]
/-- The map of the operators, the first n of them. -/
def opsD : Nat → DataW Unit
  | 0 => .map []
  | n + 1 => (opsD n).put (.int .u8 n) (.lit (.int .i64 (opsFn.getD n 0)))

theorem opsD_at (k : Nat) (hk : k < 21) : (opsD 21).atKey (.int .u8 k) .nil = .lit (.int .i64 (opsFn.getD k 0)) ∧ Maps.has (opsD 21) (.int .u8 k) = true := by
  rcases (show k = 0 ∨ k = 1 ∨ k = 2 ∨ k = 3 ∨ k = 4 ∨ k = 5 ∨ k = 6 ∨ k = 7 ∨ k = 8 ∨ k = 9 ∨ k = 10 ∨ k = 11 ∨ k = 12 ∨ k = 13 ∨ k = 14 ∨ k = 15 ∨ k = 16 ∨ k = 17 ∨ k = 18 ∨ k = 19 ∨ k = 20 by omega) with rfl | rfl | rfl | rfl | rfl | rfl | rfl | rfl | rfl | rfl | rfl | rfl | rfl | rfl | rfl | rfl | rfl | rfl | rfl | rfl | rfl <;> exact ⟨by kernel_rfl, by kernel_rfl⟩

set_option maxHeartbeats 8000000 in
theorem operators_any (w : World) : Calls Tryd.prog 18 #[] w fun e w' => ∃ b, e = .returned (.map (some b)) ∧ w'.ownsMap Tryd.prog 5 fnElem b 21 (opsD 21) ∧ Mod No w w' := by
  have hU : Tryd.prog.underlying 68 = some (.map 5 64) := by kernel_rfl
  have K : Keyed Tryd.prog 5 := int_keyed Tryd.underlying5
  go_enter Tryd.func18, Tryd.ntmps18
  have hmm := @run_makeMap Tryd.prog
  have ho0 : (w.alloc (.map #[] 0)).ownsMap Tryd.prog 5 fnElem w.heap.size 0 (opsD 0) := World.ownsMap_made w _ _ _
  have hm0 : Mod No w (w.alloc (.map #[] 0)) := (Mod.refl No w).alloc _
  go_wp2_with (first
    | (refine wpList_insert_own _ rfl _ _ _ _ rfl _ _ K hU fnElem _ 0 _ rfl ho0 (by unfold maxLen; omega) _ _ (.int .u8 0) rfl rfl (by kernel_rfl) (.lit (.int .i64 (opsFn.getD 0 0))) [] rfl ?_; intro w1 ho1 hg1; have hm1 := hm0.grown hg1 (fun j e q => by cases e; exact absurd q (Nat.lt_irrefl _)); clear ho0 hm0 hg1)
    | (refine wpList_insert_own _ rfl _ _ _ _ rfl _ _ K hU fnElem _ 1 _ rfl ho1 (by unfold maxLen; omega) _ _ (.int .u8 1) rfl rfl (by kernel_rfl) (.lit (.int .i64 (opsFn.getD 1 0))) [] rfl ?_; intro w2 ho2 hg2; have hm2 := hm1.grown hg2 (fun j e q => by cases e; exact absurd q (Nat.lt_irrefl _)); clear ho1 hm1 hg2)
    | (refine wpList_insert_own _ rfl _ _ _ _ rfl _ _ K hU fnElem _ 2 _ rfl ho2 (by unfold maxLen; omega) _ _ (.int .u8 2) rfl rfl (by kernel_rfl) (.lit (.int .i64 (opsFn.getD 2 0))) [] rfl ?_; intro w3 ho3 hg3; have hm3 := hm2.grown hg3 (fun j e q => by cases e; exact absurd q (Nat.lt_irrefl _)); clear ho2 hm2 hg3)
    | (refine wpList_insert_own _ rfl _ _ _ _ rfl _ _ K hU fnElem _ 3 _ rfl ho3 (by unfold maxLen; omega) _ _ (.int .u8 3) rfl rfl (by kernel_rfl) (.lit (.int .i64 (opsFn.getD 3 0))) [] rfl ?_; intro w4 ho4 hg4; have hm4 := hm3.grown hg4 (fun j e q => by cases e; exact absurd q (Nat.lt_irrefl _)); clear ho3 hm3 hg4)
    | (refine wpList_insert_own _ rfl _ _ _ _ rfl _ _ K hU fnElem _ 4 _ rfl ho4 (by unfold maxLen; omega) _ _ (.int .u8 4) rfl rfl (by kernel_rfl) (.lit (.int .i64 (opsFn.getD 4 0))) [] rfl ?_; intro w5 ho5 hg5; have hm5 := hm4.grown hg5 (fun j e q => by cases e; exact absurd q (Nat.lt_irrefl _)); clear ho4 hm4 hg5)
    | (refine wpList_insert_own _ rfl _ _ _ _ rfl _ _ K hU fnElem _ 5 _ rfl ho5 (by unfold maxLen; omega) _ _ (.int .u8 5) rfl rfl (by kernel_rfl) (.lit (.int .i64 (opsFn.getD 5 0))) [] rfl ?_; intro w6 ho6 hg6; have hm6 := hm5.grown hg6 (fun j e q => by cases e; exact absurd q (Nat.lt_irrefl _)); clear ho5 hm5 hg6)
    | (refine wpList_insert_own _ rfl _ _ _ _ rfl _ _ K hU fnElem _ 6 _ rfl ho6 (by unfold maxLen; omega) _ _ (.int .u8 6) rfl rfl (by kernel_rfl) (.lit (.int .i64 (opsFn.getD 6 0))) [] rfl ?_; intro w7 ho7 hg7; have hm7 := hm6.grown hg7 (fun j e q => by cases e; exact absurd q (Nat.lt_irrefl _)); clear ho6 hm6 hg7)
    | (refine wpList_insert_own _ rfl _ _ _ _ rfl _ _ K hU fnElem _ 7 _ rfl ho7 (by unfold maxLen; omega) _ _ (.int .u8 7) rfl rfl (by kernel_rfl) (.lit (.int .i64 (opsFn.getD 7 0))) [] rfl ?_; intro w8 ho8 hg8; have hm8 := hm7.grown hg8 (fun j e q => by cases e; exact absurd q (Nat.lt_irrefl _)); clear ho7 hm7 hg8)
    | (refine wpList_insert_own _ rfl _ _ _ _ rfl _ _ K hU fnElem _ 8 _ rfl ho8 (by unfold maxLen; omega) _ _ (.int .u8 8) rfl rfl (by kernel_rfl) (.lit (.int .i64 (opsFn.getD 8 0))) [] rfl ?_; intro w9 ho9 hg9; have hm9 := hm8.grown hg9 (fun j e q => by cases e; exact absurd q (Nat.lt_irrefl _)); clear ho8 hm8 hg9)
    | (refine wpList_insert_own _ rfl _ _ _ _ rfl _ _ K hU fnElem _ 9 _ rfl ho9 (by unfold maxLen; omega) _ _ (.int .u8 9) rfl rfl (by kernel_rfl) (.lit (.int .i64 (opsFn.getD 9 0))) [] rfl ?_; intro w10 ho10 hg10; have hm10 := hm9.grown hg10 (fun j e q => by cases e; exact absurd q (Nat.lt_irrefl _)); clear ho9 hm9 hg10)
    | (refine wpList_insert_own _ rfl _ _ _ _ rfl _ _ K hU fnElem _ 10 _ rfl ho10 (by unfold maxLen; omega) _ _ (.int .u8 10) rfl rfl (by kernel_rfl) (.lit (.int .i64 (opsFn.getD 10 0))) [] rfl ?_; intro w11 ho11 hg11; have hm11 := hm10.grown hg11 (fun j e q => by cases e; exact absurd q (Nat.lt_irrefl _)); clear ho10 hm10 hg11)
    | (refine wpList_insert_own _ rfl _ _ _ _ rfl _ _ K hU fnElem _ 11 _ rfl ho11 (by unfold maxLen; omega) _ _ (.int .u8 11) rfl rfl (by kernel_rfl) (.lit (.int .i64 (opsFn.getD 11 0))) [] rfl ?_; intro w12 ho12 hg12; have hm12 := hm11.grown hg12 (fun j e q => by cases e; exact absurd q (Nat.lt_irrefl _)); clear ho11 hm11 hg12)
    | (refine wpList_insert_own _ rfl _ _ _ _ rfl _ _ K hU fnElem _ 12 _ rfl ho12 (by unfold maxLen; omega) _ _ (.int .u8 12) rfl rfl (by kernel_rfl) (.lit (.int .i64 (opsFn.getD 12 0))) [] rfl ?_; intro w13 ho13 hg13; have hm13 := hm12.grown hg13 (fun j e q => by cases e; exact absurd q (Nat.lt_irrefl _)); clear ho12 hm12 hg13)
    | (refine wpList_insert_own _ rfl _ _ _ _ rfl _ _ K hU fnElem _ 13 _ rfl ho13 (by unfold maxLen; omega) _ _ (.int .u8 13) rfl rfl (by kernel_rfl) (.lit (.int .i64 (opsFn.getD 13 0))) [] rfl ?_; intro w14 ho14 hg14; have hm14 := hm13.grown hg14 (fun j e q => by cases e; exact absurd q (Nat.lt_irrefl _)); clear ho13 hm13 hg14)
    | (refine wpList_insert_own _ rfl _ _ _ _ rfl _ _ K hU fnElem _ 14 _ rfl ho14 (by unfold maxLen; omega) _ _ (.int .u8 14) rfl rfl (by kernel_rfl) (.lit (.int .i64 (opsFn.getD 14 0))) [] rfl ?_; intro w15 ho15 hg15; have hm15 := hm14.grown hg15 (fun j e q => by cases e; exact absurd q (Nat.lt_irrefl _)); clear ho14 hm14 hg15)
    | (refine wpList_insert_own _ rfl _ _ _ _ rfl _ _ K hU fnElem _ 15 _ rfl ho15 (by unfold maxLen; omega) _ _ (.int .u8 15) rfl rfl (by kernel_rfl) (.lit (.int .i64 (opsFn.getD 15 0))) [] rfl ?_; intro w16 ho16 hg16; have hm16 := hm15.grown hg16 (fun j e q => by cases e; exact absurd q (Nat.lt_irrefl _)); clear ho15 hm15 hg16)
    | (refine wpList_insert_own _ rfl _ _ _ _ rfl _ _ K hU fnElem _ 16 _ rfl ho16 (by unfold maxLen; omega) _ _ (.int .u8 16) rfl rfl (by kernel_rfl) (.lit (.int .i64 (opsFn.getD 16 0))) [] rfl ?_; intro w17 ho17 hg17; have hm17 := hm16.grown hg17 (fun j e q => by cases e; exact absurd q (Nat.lt_irrefl _)); clear ho16 hm16 hg17)
    | (refine wpList_insert_own _ rfl _ _ _ _ rfl _ _ K hU fnElem _ 17 _ rfl ho17 (by unfold maxLen; omega) _ _ (.int .u8 17) rfl rfl (by kernel_rfl) (.lit (.int .i64 (opsFn.getD 17 0))) [] rfl ?_; intro w18 ho18 hg18; have hm18 := hm17.grown hg18 (fun j e q => by cases e; exact absurd q (Nat.lt_irrefl _)); clear ho17 hm17 hg18)
    | (refine wpList_insert_own _ rfl _ _ _ _ rfl _ _ K hU fnElem _ 18 _ rfl ho18 (by unfold maxLen; omega) _ _ (.int .u8 18) rfl rfl (by kernel_rfl) (.lit (.int .i64 (opsFn.getD 18 0))) [] rfl ?_; intro w19 ho19 hg19; have hm19 := hm18.grown hg19 (fun j e q => by cases e; exact absurd q (Nat.lt_irrefl _)); clear ho18 hm18 hg19)
    | (refine wpList_insert_own _ rfl _ _ _ _ rfl _ _ K hU fnElem _ 19 _ rfl ho19 (by unfold maxLen; omega) _ _ (.int .u8 19) rfl rfl (by kernel_rfl) (.lit (.int .i64 (opsFn.getD 19 0))) [] rfl ?_; intro w20 ho20 hg20; have hm20 := hm19.grown hg20 (fun j e q => by cases e; exact absurd q (Nat.lt_irrefl _)); clear ho19 hm19 hg20)
    | (refine wpList_insert_own _ rfl _ _ _ _ rfl _ _ K hU fnElem _ 20 _ rfl ho20 (by unfold maxLen; omega) _ _ (.int .u8 20) rfl rfl (by kernel_rfl) (.lit (.int .i64 (opsFn.getD 20 0))) [] rfl ?_; intro w21 ho21 hg21; have hm21 := hm20.grown hg21 (fun j e q => by cases e; exact absurd q (Nat.lt_irrefl _)); clear ho20 hm20 hg21))
  go_ret
  exact ⟨_, rfl, ho21, hm21⟩

theorem key_u8 (k : Int) (h0 : 0 ≤ k) (h1 : k ≤ 255) : keyOf Tryd.prog 5 (.int .u8 k) = some (.int .u8 k) := by
  have hw : (Lit.int .u8 k).wf = true := by
    simp only [Lit.wf, Bool.and_eq_true, decide_eq_true_eq]
    exact ⟨h0, h1⟩
  simp [keyOf, mapKey, Tryd.underlying5, hw]
theorem opsD_not (k : Int) (hk : 20 < k) : (opsD 21).atKey (.int .u8 k) .nil = .nil ∧ Maps.has (opsD 21) (.int .u8 k) = false := by
  obtain ⟨es, he, hes⟩ : ∃ es : List (Lit × DataW Unit), opsD 21 = .map es ∧ es.map Prod.fst = (List.range 21).map fun (i : Nat) => Lit.int .u8 i := ⟨_, rfl, by kernel_rfl⟩
  have hno : ∀ p ∈ es, p.1.sameKey (.int .u8 k) = false := by
    intro p hp
    have h1 : p.1 ∈ es.map Prod.fst := List.mem_map_of_mem hp
    rw [hes] at h1
    obtain ⟨i, hi, hp1⟩ := List.mem_map.1 h1
    have hi := List.mem_range.1 hi
    rw [← hp1]
    simp only [Lit.sameKey, true_and, decide_eq_false_iff_not]
    omega
  rw [he]
  constructor
  · simp only [DataW.atKey]
    rw [List.find?_eq_none.2 (fun p hp => by rw [hno p hp]; simp)]
  · simp only [Maps.has]
    exact List.any_eq_false.2 (fun p hp => by rw [hno p hp]; simp)

/-- One operator's function, by its number. -/
theorem ops_look {w : World} {b n : Nat} (h : w.ownsMap Tryd.prog 5 fnElem b n (opsD 21)) (k : Nat) (hk : k < 21) :
    (Instr.lookup 68 (.map (some b)) (.int .u8 k) true).run Tryd.prog w = .ok (.tuple #[.func (.func (opsFn.getD k 0)) #[] #[], .bool true]) w := by
  have hU : Tryd.prog.underlying 68 = some (.map 5 64) := by kernel_rfl
  have hz : (zeroValue 64).run Tryd.prog w = .ok .nilFunc w := Tryd.zeroValue64 _
  obtain ⟨v, ps, hrun, hv⟩ := h.look_ok (int_keyed Tryd.underlying5) hU hz (zd := .nil) (zp := []) rfl (key := .int .u8 k) (kl := .int .u8 k) (key_u8 k (by omega) (by omega))
  obtain ⟨h1, h2⟩ := opsD_at k hk
  rw [h1] at hv
  rw [fnElem_inv hv, h2] at hrun
  exact hrun
theorem ops_none {w : World} {b n : Nat} (h : w.ownsMap Tryd.prog 5 fnElem b n (opsD 21)) (k : Int) (hk : 20 < k) (hk2 : k ≤ 255) :
    (Instr.lookup 68 (.map (some b)) (.int .u8 k) true).run Tryd.prog w = .ok (.tuple #[.nilFunc, .bool false]) w := by
  have hU : Tryd.prog.underlying 68 = some (.map 5 64) := by kernel_rfl
  have hz : (zeroValue 64).run Tryd.prog w = .ok .nilFunc w := Tryd.zeroValue64 _
  obtain ⟨v, ps, hrun, hv⟩ := h.look_ok (int_keyed Tryd.underlying5) hU hz (zd := .nil) (zp := []) rfl (key := .int .u8 k) (kl := .int .u8 k) (key_u8 k (by omega) hk2)
  obtain ⟨h1, h2⟩ := opsD_not k hk
  rw [h1] at hv
  rw [fnElem_nil hv, h2] at hrun
  exact hrun

end Go.Proofs.YtlbebneblmgdcaaDoor
