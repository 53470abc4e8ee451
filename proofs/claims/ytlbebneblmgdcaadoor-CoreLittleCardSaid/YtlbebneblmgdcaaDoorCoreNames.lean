/- core: the operators' names, what each takes. (Printed by wip/gen_core.py.) -/
import Derived.Test.YtlbebneblmgdcaaDoorModBase
import Derived.IntWalk
import Derived.Deep.MidRow
import Derived.Deep.DeepCutAuto
import Derived.Deep.CutRange
namespace Go.Proofs.YtlbebneblmgdcaaDoor
open Go.RowKit
set_option maxRecDepth 100000

def nameCells : List Value := [.string ⟨#[104, 97, 108, 116]⟩, .string ⟨#[115, 101, 116]⟩, .string ⟨#[104, 105, 103, 104]⟩, .string ⟨#[109, 111, 118, 101]⟩, .string ⟨#[97, 100, 100]⟩, .string ⟨#[115, 117, 98]⟩, .string ⟨#[109, 117, 108]⟩, .string ⟨#[97, 110, 100]⟩, .string ⟨#[111, 114]⟩, .string ⟨#[120, 111, 114]⟩, .string ⟨#[117, 112]⟩, .string ⟨#[100, 111, 119, 110]⟩, .string ⟨#[108, 101, 115, 115]⟩, .string ⟨#[108, 111, 97, 100]⟩, .string ⟨#[98, 121, 116, 101]⟩, .string ⟨#[115, 116, 111, 114, 101]⟩, .string ⟨#[112, 117, 116]⟩, .string ⟨#[106, 117, 109, 112]⟩, .string ⟨#[122, 101, 114, 111]⟩, .string ⟨#[115, 111, 109, 101]⟩, .string ⟨#[99, 97, 108, 108]⟩]
theorem Mod.setCells {P : Nat → Prop} {a : World} {b : Nat} (hb : a.heap.size ≤ b) : ∀ (vs : List Value) (o : Nat) (w : World), Mod P a w → Mod P a (w.setCells b o vs)
  | [], _, _, h => h
  | v :: r, o, w, h => by
    rw [World.setCells]
    exact Mod.setCells hb r (o + 1) _ (h.setCell (p := ⟨b, o, none⟩) (fun q => absurd q (Nat.not_lt.2 hb)) v)
def zeroNames : Array Value := (List.replicate 21 (Value.string ⟨#[]⟩)).toArray

set_option maxHeartbeats 4000000 in
theorem names_any (w : World) : Calls Tryd.prog 56 #[] w fun e w' => e = .returned (.agg nameCells.toArray) ∧ Mod No w w' := by
  have hi : (Tryd.prog.info? 112).map (·.size) = some nameCells.toArray.size := by kernel_rfl
  have hu : Tryd.prog.underlying 112 = some (.array 21 9) := Tryd.underlying112
  have HTH : Hid (∀ o : Array Value, o.size = 21 → (w.alloc (.cells o 112)).there w.heap.size 0 nameCells.toArray.size) := fun o ho j hj => by
    have h1 : j < 21 := hj
    have hrow := heap_alloc_new w (.cells o 112)
    have e : o = o.toList.toArray := by simp
    rw [e] at hrow
    rw [Nat.zero_add, e]
    refine ⟨?_, row_free hrow j⟩
    rw [row_cell hrow j, List.getElem?_eq_getElem (by simp; omega)]
    rfl
  have HONE : Hid (nameCells.toArray.all (·.oneCell') = true) := all_oneCell_toArray (fun v hv => by
    simp only [nameCells, List.mem_cons, List.not_mem_nil, or_false] at hv
    rcases hv with h | h | h | h | h | h | h | h | h | h | h | h | h | h | h | h | h | h | h | h | h <;> rw [h] <;> rfl)
  go_enter Tryd.func56, Tryd.ntmps56
  go_upto_region 1 with (fail)
  go_wp2_with (refine wpList_store_mid rfl 112 (.tmp 0) (.tmp 1) rfl w.heap.size 0 nameCells.toArray (by simp [Act.eval]) (by simp [Act.eval, nameCells]) (HTH.out _ rfl) hi HONE.out ?_)
  have hr := World.rangeAt_setCells_same (w.alloc (.cells zeroNames 112)) w.heap.size 0 nameCells (HTH.out zeroNames rfl)
  have hl := run_loadVar_mid (P := Tryd.prog) _ w.heap.size 0 112 nameCells _ hr hu rfl hi
  have hm : Mod No w ((w.alloc (.cells zeroNames 112)).setCells w.heap.size 0 nameCells) := Mod.setCells (Nat.le_refl _) _ _ _ ((Mod.refl No w).alloc _)
  show bodyPost Tryd.prog Tryd.f56 _ Exit.ret _ ((w.alloc (.cells zeroNames 112)).setCells w.heap.size 0 nameCells)
  generalize (w.alloc (.cells zeroNames 112)).setCells w.heap.size 0 nameCells = W at hl hm ⊢
  clear hr HTH HONE
  refine bodyPost_ret (v := .agg nameCells.toArray) ?_ rfl ⟨rfl, hm⟩
  generalize nameCells.toArray = N at hl ⊢
  simp [results, Tryd.results56, asAddr, Act.put, hl]

theorem shape_0 (a b c : Int) (w : World) : Calls Tryd.prog 19 #[.agg #[.int .u8 0, .int .u8 a, .int .u8 b, .int .u8 c]] w fun e w' => e = .returned (.agg #[.int .i64 0, .int .i64 0, .bool false]) ∧ Mod No w w' := by
  go_enter Tryd.func19, Tryd.ntmps19
  go_wp2
  exact bodyPost_ret (v := .agg #[.int .i64 0, .int .i64 0, .bool false]) (by simp [results, Tryd.results19, go_sem]) rfl ⟨rfl, ((Mod.refl No w).alloc _).alloc _⟩
theorem shape_1 (a b c : Int) (w : World) : Calls Tryd.prog 19 #[.agg #[.int .u8 1, .int .u8 a, .int .u8 b, .int .u8 c]] w fun e w' => e = .returned (.agg #[.int .i64 1, .int .i64 1, .bool true]) ∧ Mod No w w' := by
  go_enter Tryd.func19, Tryd.ntmps19
  go_wp2
  exact bodyPost_ret (v := .agg #[.int .i64 1, .int .i64 1, .bool true]) (by simp [results, Tryd.results19, go_sem]) rfl ⟨rfl, ((Mod.refl No w).alloc _).alloc _⟩
theorem shape_2 (a b c : Int) (w : World) : Calls Tryd.prog 19 #[.agg #[.int .u8 2, .int .u8 a, .int .u8 b, .int .u8 c]] w fun e w' => e = .returned (.agg #[.int .i64 1, .int .i64 1, .bool true]) ∧ Mod No w w' := by
  go_enter Tryd.func19, Tryd.ntmps19
  go_wp2
  exact bodyPost_ret (v := .agg #[.int .i64 1, .int .i64 1, .bool true]) (by simp [results, Tryd.results19, go_sem]) rfl ⟨rfl, ((Mod.refl No w).alloc _).alloc _⟩
theorem shape_3 (a b c : Int) (w : World) : Calls Tryd.prog 19 #[.agg #[.int .u8 3, .int .u8 a, .int .u8 b, .int .u8 c]] w fun e w' => e = .returned (.agg #[.int .i64 2, .int .i64 2, .bool false]) ∧ Mod No w w' := by
  go_enter Tryd.func19, Tryd.ntmps19
  go_wp2
  exact bodyPost_ret (v := .agg #[.int .i64 2, .int .i64 2, .bool false]) (by simp [results, Tryd.results19, go_sem]) rfl ⟨rfl, ((Mod.refl No w).alloc _).alloc _⟩
theorem shape_4 (a b c : Int) (w : World) : Calls Tryd.prog 19 #[.agg #[.int .u8 4, .int .u8 a, .int .u8 b, .int .u8 c]] w fun e w' => e = .returned (.agg #[.int .i64 3, .int .i64 3, .bool false]) ∧ Mod No w w' := by
  go_enter Tryd.func19, Tryd.ntmps19
  go_wp2
  exact bodyPost_ret (v := .agg #[.int .i64 3, .int .i64 3, .bool false]) (by simp [results, Tryd.results19, go_sem]) rfl ⟨rfl, ((Mod.refl No w).alloc _).alloc _⟩
theorem shape_5 (a b c : Int) (w : World) : Calls Tryd.prog 19 #[.agg #[.int .u8 5, .int .u8 a, .int .u8 b, .int .u8 c]] w fun e w' => e = .returned (.agg #[.int .i64 3, .int .i64 3, .bool false]) ∧ Mod No w w' := by
  go_enter Tryd.func19, Tryd.ntmps19
  go_wp2
  exact bodyPost_ret (v := .agg #[.int .i64 3, .int .i64 3, .bool false]) (by simp [results, Tryd.results19, go_sem]) rfl ⟨rfl, ((Mod.refl No w).alloc _).alloc _⟩
theorem shape_6 (a b c : Int) (w : World) : Calls Tryd.prog 19 #[.agg #[.int .u8 6, .int .u8 a, .int .u8 b, .int .u8 c]] w fun e w' => e = .returned (.agg #[.int .i64 3, .int .i64 3, .bool false]) ∧ Mod No w w' := by
  go_enter Tryd.func19, Tryd.ntmps19
  go_wp2
  exact bodyPost_ret (v := .agg #[.int .i64 3, .int .i64 3, .bool false]) (by simp [results, Tryd.results19, go_sem]) rfl ⟨rfl, ((Mod.refl No w).alloc _).alloc _⟩
theorem shape_7 (a b c : Int) (w : World) : Calls Tryd.prog 19 #[.agg #[.int .u8 7, .int .u8 a, .int .u8 b, .int .u8 c]] w fun e w' => e = .returned (.agg #[.int .i64 3, .int .i64 3, .bool false]) ∧ Mod No w w' := by
  go_enter Tryd.func19, Tryd.ntmps19
  go_wp2
  exact bodyPost_ret (v := .agg #[.int .i64 3, .int .i64 3, .bool false]) (by simp [results, Tryd.results19, go_sem]) rfl ⟨rfl, ((Mod.refl No w).alloc _).alloc _⟩
theorem shape_8 (a b c : Int) (w : World) : Calls Tryd.prog 19 #[.agg #[.int .u8 8, .int .u8 a, .int .u8 b, .int .u8 c]] w fun e w' => e = .returned (.agg #[.int .i64 3, .int .i64 3, .bool false]) ∧ Mod No w w' := by
  go_enter Tryd.func19, Tryd.ntmps19
  go_wp2
  exact bodyPost_ret (v := .agg #[.int .i64 3, .int .i64 3, .bool false]) (by simp [results, Tryd.results19, go_sem]) rfl ⟨rfl, ((Mod.refl No w).alloc _).alloc _⟩
theorem shape_9 (a b c : Int) (w : World) : Calls Tryd.prog 19 #[.agg #[.int .u8 9, .int .u8 a, .int .u8 b, .int .u8 c]] w fun e w' => e = .returned (.agg #[.int .i64 3, .int .i64 3, .bool false]) ∧ Mod No w w' := by
  go_enter Tryd.func19, Tryd.ntmps19
  go_wp2
  exact bodyPost_ret (v := .agg #[.int .i64 3, .int .i64 3, .bool false]) (by simp [results, Tryd.results19, go_sem]) rfl ⟨rfl, ((Mod.refl No w).alloc _).alloc _⟩
theorem shape_10 (a b c : Int) (w : World) : Calls Tryd.prog 19 #[.agg #[.int .u8 10, .int .u8 a, .int .u8 b, .int .u8 c]] w fun e w' => e = .returned (.agg #[.int .i64 3, .int .i64 3, .bool false]) ∧ Mod No w w' := by
  go_enter Tryd.func19, Tryd.ntmps19
  go_wp2
  exact bodyPost_ret (v := .agg #[.int .i64 3, .int .i64 3, .bool false]) (by simp [results, Tryd.results19, go_sem]) rfl ⟨rfl, ((Mod.refl No w).alloc _).alloc _⟩
theorem shape_11 (a b c : Int) (w : World) : Calls Tryd.prog 19 #[.agg #[.int .u8 11, .int .u8 a, .int .u8 b, .int .u8 c]] w fun e w' => e = .returned (.agg #[.int .i64 3, .int .i64 3, .bool false]) ∧ Mod No w w' := by
  go_enter Tryd.func19, Tryd.ntmps19
  go_wp2
  exact bodyPost_ret (v := .agg #[.int .i64 3, .int .i64 3, .bool false]) (by simp [results, Tryd.results19, go_sem]) rfl ⟨rfl, ((Mod.refl No w).alloc _).alloc _⟩
theorem shape_12 (a b c : Int) (w : World) : Calls Tryd.prog 19 #[.agg #[.int .u8 12, .int .u8 a, .int .u8 b, .int .u8 c]] w fun e w' => e = .returned (.agg #[.int .i64 3, .int .i64 3, .bool false]) ∧ Mod No w w' := by
  go_enter Tryd.func19, Tryd.ntmps19
  go_wp2
  exact bodyPost_ret (v := .agg #[.int .i64 3, .int .i64 3, .bool false]) (by simp [results, Tryd.results19, go_sem]) rfl ⟨rfl, ((Mod.refl No w).alloc _).alloc _⟩
theorem shape_13 (a b c : Int) (w : World) : Calls Tryd.prog 19 #[.agg #[.int .u8 13, .int .u8 a, .int .u8 b, .int .u8 c]] w fun e w' => e = .returned (.agg #[.int .i64 2, .int .i64 3, .bool false]) ∧ Mod No w w' := by
  go_enter Tryd.func19, Tryd.ntmps19
  go_wp2
  exact bodyPost_ret (v := .agg #[.int .i64 2, .int .i64 3, .bool false]) (by simp [results, Tryd.results19, go_sem]) rfl ⟨rfl, ((Mod.refl No w).alloc _).alloc _⟩
theorem shape_14 (a b c : Int) (w : World) : Calls Tryd.prog 19 #[.agg #[.int .u8 14, .int .u8 a, .int .u8 b, .int .u8 c]] w fun e w' => e = .returned (.agg #[.int .i64 2, .int .i64 3, .bool false]) ∧ Mod No w w' := by
  go_enter Tryd.func19, Tryd.ntmps19
  go_wp2
  exact bodyPost_ret (v := .agg #[.int .i64 2, .int .i64 3, .bool false]) (by simp [results, Tryd.results19, go_sem]) rfl ⟨rfl, ((Mod.refl No w).alloc _).alloc _⟩
theorem shape_15 (a b c : Int) (w : World) : Calls Tryd.prog 19 #[.agg #[.int .u8 15, .int .u8 a, .int .u8 b, .int .u8 c]] w fun e w' => e = .returned (.agg #[.int .i64 2, .int .i64 3, .bool false]) ∧ Mod No w w' := by
  go_enter Tryd.func19, Tryd.ntmps19
  go_wp2
  exact bodyPost_ret (v := .agg #[.int .i64 2, .int .i64 3, .bool false]) (by simp [results, Tryd.results19, go_sem]) rfl ⟨rfl, ((Mod.refl No w).alloc _).alloc _⟩
theorem shape_16 (a b c : Int) (w : World) : Calls Tryd.prog 19 #[.agg #[.int .u8 16, .int .u8 a, .int .u8 b, .int .u8 c]] w fun e w' => e = .returned (.agg #[.int .i64 2, .int .i64 3, .bool false]) ∧ Mod No w w' := by
  go_enter Tryd.func19, Tryd.ntmps19
  go_wp2
  exact bodyPost_ret (v := .agg #[.int .i64 2, .int .i64 3, .bool false]) (by simp [results, Tryd.results19, go_sem]) rfl ⟨rfl, ((Mod.refl No w).alloc _).alloc _⟩
theorem shape_17 (a b c : Int) (w : World) : Calls Tryd.prog 19 #[.agg #[.int .u8 17, .int .u8 a, .int .u8 b, .int .u8 c]] w fun e w' => e = .returned (.agg #[.int .i64 1, .int .i64 1, .bool false]) ∧ Mod No w w' := by
  go_enter Tryd.func19, Tryd.ntmps19
  go_wp2
  exact bodyPost_ret (v := .agg #[.int .i64 1, .int .i64 1, .bool false]) (by simp [results, Tryd.results19, go_sem]) rfl ⟨rfl, ((Mod.refl No w).alloc _).alloc _⟩
theorem shape_18 (a b c : Int) (w : World) : Calls Tryd.prog 19 #[.agg #[.int .u8 18, .int .u8 a, .int .u8 b, .int .u8 c]] w fun e w' => e = .returned (.agg #[.int .i64 1, .int .i64 1, .bool true]) ∧ Mod No w w' := by
  go_enter Tryd.func19, Tryd.ntmps19
  go_wp2
  exact bodyPost_ret (v := .agg #[.int .i64 1, .int .i64 1, .bool true]) (by simp [results, Tryd.results19, go_sem]) rfl ⟨rfl, ((Mod.refl No w).alloc _).alloc _⟩
theorem shape_19 (a b c : Int) (w : World) : Calls Tryd.prog 19 #[.agg #[.int .u8 19, .int .u8 a, .int .u8 b, .int .u8 c]] w fun e w' => e = .returned (.agg #[.int .i64 1, .int .i64 1, .bool true]) ∧ Mod No w w' := by
  go_enter Tryd.func19, Tryd.ntmps19
  go_wp2
  exact bodyPost_ret (v := .agg #[.int .i64 1, .int .i64 1, .bool true]) (by simp [results, Tryd.results19, go_sem]) rfl ⟨rfl, ((Mod.refl No w).alloc _).alloc _⟩
theorem shape_20 (a b c : Int) (w : World) : Calls Tryd.prog 19 #[.agg #[.int .u8 20, .int .u8 a, .int .u8 b, .int .u8 c]] w fun e w' => e = .returned (.agg #[.int .i64 0, .int .i64 0, .bool true]) ∧ Mod No w w' := by
  go_enter Tryd.func19, Tryd.ntmps19
  go_wp2
  exact bodyPost_ret (v := .agg #[.int .i64 0, .int .i64 0, .bool true]) (by simp [results, Tryd.results19, go_sem]) rfl ⟨rfl, ((Mod.refl No w).alloc _).alloc _⟩

theorem or_low8 (b c : Int) (hb : 0 ≤ b ∧ b ≤ 255) (hc : 0 ≤ c ∧ c ≤ 255) : bits .or .u32 b (c * 256) = b + 256 * c := by
  rw [Go.u32_or b (c * 256) hb.1 (by omega) (by omega) (by omega), Nat.or_comm, Go.nat_join 8 (c * 256).toNat b.toNat (by omega) (by omega)]
  omega
theorem kk_any (o a b c : Int) (w : World) (hb : 0 ≤ b ∧ b ≤ 255) (hc : 0 ≤ c ∧ c ≤ 255) : Calls Tryd.prog 58 #[.agg #[.int .u8 o, .int .u8 a, .int .u8 b, .int .u8 c]] w fun e w' => e = .returned (.int .u32 (b + 256 * c)) ∧ Mod No w w' := by
  have e := or_low8 b c hb hc
  go_enter Tryd.func58, Tryd.ntmps58
  go_wp2
  go_ret
  exact ⟨rfl, (Mod.refl No w).alloc _⟩
end Go.Proofs.YtlbebneblmgdcaaDoor
