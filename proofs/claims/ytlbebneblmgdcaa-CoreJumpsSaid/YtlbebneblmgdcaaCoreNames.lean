/- core: the operators' names, what each takes. (Printed by wip/gen_core.py.) -/
import Derived.Test.YtlbebneblmgdcaaModBase
import Derived.IntWalk
import Derived.Deep.MidRow
import Derived.Deep.DeepCutAuto
import Derived.Deep.CutRange
namespace Go.Proofs.Ytlbebneblmgdcaa
open Go.RowKit
set_option maxRecDepth 100000

def nameCells : List Value := [.string ⟨#[104, 97, 108, 116]⟩, .string ⟨#[115, 101, 116]⟩, .string ⟨#[104, 105, 103, 104]⟩, .string ⟨#[109, 111, 118, 101]⟩, .string ⟨#[97, 100, 100]⟩, .string ⟨#[115, 117, 98]⟩, .string ⟨#[109, 117, 108]⟩, .string ⟨#[97, 110, 100]⟩, .string ⟨#[111, 114]⟩, .string ⟨#[120, 111, 114]⟩, .string ⟨#[117, 112]⟩, .string ⟨#[100, 111, 119, 110]⟩, .string ⟨#[108, 101, 115, 115]⟩, .string ⟨#[108, 111, 97, 100]⟩, .string ⟨#[98, 121, 116, 101]⟩, .string ⟨#[115, 116, 111, 114, 101]⟩, .string ⟨#[112, 117, 116]⟩, .string ⟨#[106, 117, 109, 112]⟩, .string ⟨#[122, 101, 114, 111]⟩, .string ⟨#[115, 111, 109, 101]⟩, .string ⟨#[99, 97, 108, 108]⟩]
theorem Mod.setCells {P : Nat → Prop} {a : World} {b : Nat} (hb : a.heap.size ≤ b) : ∀ (vs : List Value) (o : Nat) (w : World), Mod P a w → Mod P a (w.setCells b o vs)
  | [], _, _, h => h
  | v :: r, o, w, h => by
    rw [World.setCells]
    exact Mod.setCells hb r (o + 1) _ (h.setCell (p := ⟨b, o, none⟩) (fun q => absurd q (Nat.not_lt.2 hb)) v)
def zeroNames : Array Value := (List.replicate 21 (Value.string ⟨#[]⟩)).toArray

theorem shape_0 (a b c : Int) (w : World) : Calls Try.prog 15 #[.agg #[.int .u8 0, .int .u8 a, .int .u8 b, .int .u8 c]] w fun e w' => e = .returned (.agg #[.int .i64 0, .int .i64 0, .bool false]) ∧ Mod No w w' := by
  go_enter Try.func15, Try.ntmps15
  go_wp2
  exact bodyPost_ret (v := .agg #[.int .i64 0, .int .i64 0, .bool false]) (by simp [results, Try.results15, go_sem]) rfl ⟨rfl, ((Mod.refl No w).alloc _).alloc _⟩
theorem shape_1 (a b c : Int) (w : World) : Calls Try.prog 15 #[.agg #[.int .u8 1, .int .u8 a, .int .u8 b, .int .u8 c]] w fun e w' => e = .returned (.agg #[.int .i64 1, .int .i64 1, .bool true]) ∧ Mod No w w' := by
  go_enter Try.func15, Try.ntmps15
  go_wp2
  exact bodyPost_ret (v := .agg #[.int .i64 1, .int .i64 1, .bool true]) (by simp [results, Try.results15, go_sem]) rfl ⟨rfl, ((Mod.refl No w).alloc _).alloc _⟩
theorem shape_2 (a b c : Int) (w : World) : Calls Try.prog 15 #[.agg #[.int .u8 2, .int .u8 a, .int .u8 b, .int .u8 c]] w fun e w' => e = .returned (.agg #[.int .i64 1, .int .i64 1, .bool true]) ∧ Mod No w w' := by
  go_enter Try.func15, Try.ntmps15
  go_wp2
  exact bodyPost_ret (v := .agg #[.int .i64 1, .int .i64 1, .bool true]) (by simp [results, Try.results15, go_sem]) rfl ⟨rfl, ((Mod.refl No w).alloc _).alloc _⟩
theorem shape_3 (a b c : Int) (w : World) : Calls Try.prog 15 #[.agg #[.int .u8 3, .int .u8 a, .int .u8 b, .int .u8 c]] w fun e w' => e = .returned (.agg #[.int .i64 2, .int .i64 2, .bool false]) ∧ Mod No w w' := by
  go_enter Try.func15, Try.ntmps15
  go_wp2
  exact bodyPost_ret (v := .agg #[.int .i64 2, .int .i64 2, .bool false]) (by simp [results, Try.results15, go_sem]) rfl ⟨rfl, ((Mod.refl No w).alloc _).alloc _⟩
theorem shape_4 (a b c : Int) (w : World) : Calls Try.prog 15 #[.agg #[.int .u8 4, .int .u8 a, .int .u8 b, .int .u8 c]] w fun e w' => e = .returned (.agg #[.int .i64 3, .int .i64 3, .bool false]) ∧ Mod No w w' := by
  go_enter Try.func15, Try.ntmps15
  go_wp2
  exact bodyPost_ret (v := .agg #[.int .i64 3, .int .i64 3, .bool false]) (by simp [results, Try.results15, go_sem]) rfl ⟨rfl, ((Mod.refl No w).alloc _).alloc _⟩
theorem shape_5 (a b c : Int) (w : World) : Calls Try.prog 15 #[.agg #[.int .u8 5, .int .u8 a, .int .u8 b, .int .u8 c]] w fun e w' => e = .returned (.agg #[.int .i64 3, .int .i64 3, .bool false]) ∧ Mod No w w' := by
  go_enter Try.func15, Try.ntmps15
  go_wp2
  exact bodyPost_ret (v := .agg #[.int .i64 3, .int .i64 3, .bool false]) (by simp [results, Try.results15, go_sem]) rfl ⟨rfl, ((Mod.refl No w).alloc _).alloc _⟩
theorem shape_6 (a b c : Int) (w : World) : Calls Try.prog 15 #[.agg #[.int .u8 6, .int .u8 a, .int .u8 b, .int .u8 c]] w fun e w' => e = .returned (.agg #[.int .i64 3, .int .i64 3, .bool false]) ∧ Mod No w w' := by
  go_enter Try.func15, Try.ntmps15
  go_wp2
  exact bodyPost_ret (v := .agg #[.int .i64 3, .int .i64 3, .bool false]) (by simp [results, Try.results15, go_sem]) rfl ⟨rfl, ((Mod.refl No w).alloc _).alloc _⟩
theorem shape_7 (a b c : Int) (w : World) : Calls Try.prog 15 #[.agg #[.int .u8 7, .int .u8 a, .int .u8 b, .int .u8 c]] w fun e w' => e = .returned (.agg #[.int .i64 3, .int .i64 3, .bool false]) ∧ Mod No w w' := by
  go_enter Try.func15, Try.ntmps15
  go_wp2
  exact bodyPost_ret (v := .agg #[.int .i64 3, .int .i64 3, .bool false]) (by simp [results, Try.results15, go_sem]) rfl ⟨rfl, ((Mod.refl No w).alloc _).alloc _⟩
theorem shape_8 (a b c : Int) (w : World) : Calls Try.prog 15 #[.agg #[.int .u8 8, .int .u8 a, .int .u8 b, .int .u8 c]] w fun e w' => e = .returned (.agg #[.int .i64 3, .int .i64 3, .bool false]) ∧ Mod No w w' := by
  go_enter Try.func15, Try.ntmps15
  go_wp2
  exact bodyPost_ret (v := .agg #[.int .i64 3, .int .i64 3, .bool false]) (by simp [results, Try.results15, go_sem]) rfl ⟨rfl, ((Mod.refl No w).alloc _).alloc _⟩
theorem shape_9 (a b c : Int) (w : World) : Calls Try.prog 15 #[.agg #[.int .u8 9, .int .u8 a, .int .u8 b, .int .u8 c]] w fun e w' => e = .returned (.agg #[.int .i64 3, .int .i64 3, .bool false]) ∧ Mod No w w' := by
  go_enter Try.func15, Try.ntmps15
  go_wp2
  exact bodyPost_ret (v := .agg #[.int .i64 3, .int .i64 3, .bool false]) (by simp [results, Try.results15, go_sem]) rfl ⟨rfl, ((Mod.refl No w).alloc _).alloc _⟩
theorem shape_10 (a b c : Int) (w : World) : Calls Try.prog 15 #[.agg #[.int .u8 10, .int .u8 a, .int .u8 b, .int .u8 c]] w fun e w' => e = .returned (.agg #[.int .i64 3, .int .i64 3, .bool false]) ∧ Mod No w w' := by
  go_enter Try.func15, Try.ntmps15
  go_wp2
  exact bodyPost_ret (v := .agg #[.int .i64 3, .int .i64 3, .bool false]) (by simp [results, Try.results15, go_sem]) rfl ⟨rfl, ((Mod.refl No w).alloc _).alloc _⟩
theorem shape_11 (a b c : Int) (w : World) : Calls Try.prog 15 #[.agg #[.int .u8 11, .int .u8 a, .int .u8 b, .int .u8 c]] w fun e w' => e = .returned (.agg #[.int .i64 3, .int .i64 3, .bool false]) ∧ Mod No w w' := by
  go_enter Try.func15, Try.ntmps15
  go_wp2
  exact bodyPost_ret (v := .agg #[.int .i64 3, .int .i64 3, .bool false]) (by simp [results, Try.results15, go_sem]) rfl ⟨rfl, ((Mod.refl No w).alloc _).alloc _⟩
theorem shape_12 (a b c : Int) (w : World) : Calls Try.prog 15 #[.agg #[.int .u8 12, .int .u8 a, .int .u8 b, .int .u8 c]] w fun e w' => e = .returned (.agg #[.int .i64 3, .int .i64 3, .bool false]) ∧ Mod No w w' := by
  go_enter Try.func15, Try.ntmps15
  go_wp2
  exact bodyPost_ret (v := .agg #[.int .i64 3, .int .i64 3, .bool false]) (by simp [results, Try.results15, go_sem]) rfl ⟨rfl, ((Mod.refl No w).alloc _).alloc _⟩
theorem shape_13 (a b c : Int) (w : World) : Calls Try.prog 15 #[.agg #[.int .u8 13, .int .u8 a, .int .u8 b, .int .u8 c]] w fun e w' => e = .returned (.agg #[.int .i64 2, .int .i64 3, .bool false]) ∧ Mod No w w' := by
  go_enter Try.func15, Try.ntmps15
  go_wp2
  exact bodyPost_ret (v := .agg #[.int .i64 2, .int .i64 3, .bool false]) (by simp [results, Try.results15, go_sem]) rfl ⟨rfl, ((Mod.refl No w).alloc _).alloc _⟩
theorem shape_14 (a b c : Int) (w : World) : Calls Try.prog 15 #[.agg #[.int .u8 14, .int .u8 a, .int .u8 b, .int .u8 c]] w fun e w' => e = .returned (.agg #[.int .i64 2, .int .i64 3, .bool false]) ∧ Mod No w w' := by
  go_enter Try.func15, Try.ntmps15
  go_wp2
  exact bodyPost_ret (v := .agg #[.int .i64 2, .int .i64 3, .bool false]) (by simp [results, Try.results15, go_sem]) rfl ⟨rfl, ((Mod.refl No w).alloc _).alloc _⟩
theorem shape_15 (a b c : Int) (w : World) : Calls Try.prog 15 #[.agg #[.int .u8 15, .int .u8 a, .int .u8 b, .int .u8 c]] w fun e w' => e = .returned (.agg #[.int .i64 2, .int .i64 3, .bool false]) ∧ Mod No w w' := by
  go_enter Try.func15, Try.ntmps15
  go_wp2
  exact bodyPost_ret (v := .agg #[.int .i64 2, .int .i64 3, .bool false]) (by simp [results, Try.results15, go_sem]) rfl ⟨rfl, ((Mod.refl No w).alloc _).alloc _⟩
theorem shape_16 (a b c : Int) (w : World) : Calls Try.prog 15 #[.agg #[.int .u8 16, .int .u8 a, .int .u8 b, .int .u8 c]] w fun e w' => e = .returned (.agg #[.int .i64 2, .int .i64 3, .bool false]) ∧ Mod No w w' := by
  go_enter Try.func15, Try.ntmps15
  go_wp2
  exact bodyPost_ret (v := .agg #[.int .i64 2, .int .i64 3, .bool false]) (by simp [results, Try.results15, go_sem]) rfl ⟨rfl, ((Mod.refl No w).alloc _).alloc _⟩
theorem shape_17 (a b c : Int) (w : World) : Calls Try.prog 15 #[.agg #[.int .u8 17, .int .u8 a, .int .u8 b, .int .u8 c]] w fun e w' => e = .returned (.agg #[.int .i64 1, .int .i64 1, .bool false]) ∧ Mod No w w' := by
  go_enter Try.func15, Try.ntmps15
  go_wp2
  exact bodyPost_ret (v := .agg #[.int .i64 1, .int .i64 1, .bool false]) (by simp [results, Try.results15, go_sem]) rfl ⟨rfl, ((Mod.refl No w).alloc _).alloc _⟩
theorem shape_18 (a b c : Int) (w : World) : Calls Try.prog 15 #[.agg #[.int .u8 18, .int .u8 a, .int .u8 b, .int .u8 c]] w fun e w' => e = .returned (.agg #[.int .i64 1, .int .i64 1, .bool true]) ∧ Mod No w w' := by
  go_enter Try.func15, Try.ntmps15
  go_wp2
  exact bodyPost_ret (v := .agg #[.int .i64 1, .int .i64 1, .bool true]) (by simp [results, Try.results15, go_sem]) rfl ⟨rfl, ((Mod.refl No w).alloc _).alloc _⟩
theorem shape_19 (a b c : Int) (w : World) : Calls Try.prog 15 #[.agg #[.int .u8 19, .int .u8 a, .int .u8 b, .int .u8 c]] w fun e w' => e = .returned (.agg #[.int .i64 1, .int .i64 1, .bool true]) ∧ Mod No w w' := by
  go_enter Try.func15, Try.ntmps15
  go_wp2
  exact bodyPost_ret (v := .agg #[.int .i64 1, .int .i64 1, .bool true]) (by simp [results, Try.results15, go_sem]) rfl ⟨rfl, ((Mod.refl No w).alloc _).alloc _⟩
theorem shape_20 (a b c : Int) (w : World) : Calls Try.prog 15 #[.agg #[.int .u8 20, .int .u8 a, .int .u8 b, .int .u8 c]] w fun e w' => e = .returned (.agg #[.int .i64 0, .int .i64 0, .bool true]) ∧ Mod No w w' := by
  go_enter Try.func15, Try.ntmps15
  go_wp2
  exact bodyPost_ret (v := .agg #[.int .i64 0, .int .i64 0, .bool true]) (by simp [results, Try.results15, go_sem]) rfl ⟨rfl, ((Mod.refl No w).alloc _).alloc _⟩

theorem or_low8 (b c : Int) (hb : 0 ≤ b ∧ b ≤ 255) (hc : 0 ≤ c ∧ c ≤ 255) : bits .or .u32 b (c * 256) = b + 256 * c := by
  rw [Go.u32_or b (c * 256) hb.1 (by omega) (by omega) (by omega), Nat.or_comm, Go.nat_join 8 (c * 256).toNat b.toNat (by omega) (by omega)]
  omega
theorem kk_any (o a b c : Int) (w : World) (hb : 0 ≤ b ∧ b ≤ 255) (hc : 0 ≤ c ∧ c ≤ 255) : Calls Try.prog 51 #[.agg #[.int .u8 o, .int .u8 a, .int .u8 b, .int .u8 c]] w fun e w' => e = .returned (.int .u32 (b + 256 * c)) ∧ Mod No w w' := by
  have e := or_low8 b c hb hc
  go_enter Try.func51, Try.ntmps51
  go_wp2
  go_ret
  exact ⟨rfl, (Mod.refl No w).alloc _⟩
end Go.Proofs.Ytlbebneblmgdcaa
