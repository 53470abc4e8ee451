/- core.Text and the document's: the same at every four bytes. (Printed by wip/gen_both.py.) -/
import Derived.Test.YtapnodlmfapjlaaDoorCoreTextH
import Derived.Test.YtapnodlmfapjlaaDoorCoreTextF
import Derived.Test.YtapnodlmfapjlaaDoorRefTextH
namespace Go.Proofs.YtapnodlmfapjlaaDoor
open Go.RowKit
set_option maxRecDepth 100000

def FourAt (w : World) (bA of : Nat) (o a b c : Int) : Prop := ∀ w', Mod No w w' → w'.cell? ⟨bA, of, none⟩ = some (.int .u8 o) ∧ w'.cell? ⟨bA, of + 1, none⟩ = some (.int .u8 a) ∧ w'.cell? ⟨bA, of + 2, none⟩ = some (.int .u8 b) ∧ w'.cell? ⟨bA, of + 3, none⟩ = some (.int .u8 c)
def TextSame (o a b c : Int) : Prop := ∃ T : ByteArray,
  (∀ (bA cap : Nat) (w : World), 4 ≤ cap → FourAt w bA 0 o a b c → (∀ w', Mod No w w' → Lib.TabIs Tryd.prog w' "internal/strconv.uint64pow10" .u64 Lib.pow10Tab) →
    Calls Tryd.prog 5 #[.slice (some ⟨bA, 0, none⟩) 4 cap] w fun e w' => e = .returned (.tuple #[.string T, .int .i64 0]) ∧ Mod No w w') ∧
  (∀ (bA of cap : Nat) (w : World), 4 ≤ cap → FourAt w bA of o a b c →
    Calls Tryd.prog 6 #[.slice (some ⟨bA, of, none⟩) 4 cap] w fun e w' => e = .returned (.tuple #[.string T, .int .i64 0]) ∧ Mod No w w')

theorem same_0 (a b c : Int) (ha : 0 ≤ a ∧ a ≤ 255) (hb : 0 ≤ b ∧ b ≤ 255) (hc : 0 ≤ c ∧ c ≤ 255) : TextSame 0 a b c :=
  ⟨_, fun bA cap w hcap hcl htab => text_n0 0 (by omega) (by decide) (by decide) a b c 0 ⟨#[104, 97, 108, 116]⟩ (by decide) bA cap w ha hb hc hcap hcl (fun w => by unfold nameCells; simp [go_sem, Instr.index, asIntOf, run_underlying Tryd.underlying37]) (fun w => shape_0 a b c w) htab, fun bA of cap w hcap hcl => rtext_0 a b c ⟨#[104, 97, 108, 116]⟩ (by decide) bA of cap w ha hb hc hcap hcl rfl⟩
theorem same_1 (a b c : Int) (ha : 0 ≤ a ∧ a ≤ 255) (hb : 0 ≤ b ∧ b ≤ 255) (hc : 0 ≤ c ∧ c ≤ 255) : TextSame 1 a b c :=
  ⟨_, fun bA cap w hcap hcl htab => text_n1k 1 (by omega) (by decide) (by decide) a b c 1 ⟨#[115, 101, 116]⟩ (by decide) bA cap w ha hb hc hcap hcl (fun w => by unfold nameCells; simp [go_sem, Instr.index, asIntOf, run_underlying Tryd.underlying37]) (fun w => shape_1 a b c w) htab, fun bA of cap w hcap hcl => rtext_1 a b c ⟨#[115, 101, 116]⟩ (by decide) bA of cap w ha hb hc hcap hcl rfl⟩
theorem same_2 (a b c : Int) (ha : 0 ≤ a ∧ a ≤ 255) (hb : 0 ≤ b ∧ b ≤ 255) (hc : 0 ≤ c ∧ c ≤ 255) : TextSame 2 a b c :=
  ⟨_, fun bA cap w hcap hcl htab => text_n1k 2 (by omega) (by decide) (by decide) a b c 1 ⟨#[104, 105, 103, 104]⟩ (by decide) bA cap w ha hb hc hcap hcl (fun w => by unfold nameCells; simp [go_sem, Instr.index, asIntOf, run_underlying Tryd.underlying37]) (fun w => shape_2 a b c w) htab, fun bA of cap w hcap hcl => rtext_2 a b c ⟨#[104, 105, 103, 104]⟩ (by decide) bA of cap w ha hb hc hcap hcl rfl⟩
theorem same_3 (a b c : Int) (ha : 0 ≤ a ∧ a ≤ 255) (hb : 0 ≤ b ∧ b ≤ 255) (hc : 0 ≤ c ∧ c ≤ 255) : TextSame 3 a b c :=
  ⟨_, fun bA cap w hcap hcl htab => text_n2 3 (by omega) (by decide) (by decide) a b c 2 ⟨#[109, 111, 118, 101]⟩ (by decide) bA cap w ha hb hc hcap hcl (fun w => by unfold nameCells; simp [go_sem, Instr.index, asIntOf, run_underlying Tryd.underlying37]) (fun w => shape_3 a b c w) htab, fun bA of cap w hcap hcl => rtext_3 a b c ⟨#[109, 111, 118, 101]⟩ (by decide) bA of cap w ha hb hc hcap hcl rfl⟩
theorem same_4 (a b c : Int) (ha : 0 ≤ a ∧ a ≤ 255) (hb : 0 ≤ b ∧ b ≤ 255) (hc : 0 ≤ c ∧ c ≤ 255) : TextSame 4 a b c :=
  ⟨_, fun bA cap w hcap hcl htab => text_n3 4 (by omega) (by decide) (by decide) a b c 3 ⟨#[97, 100, 100]⟩ (by decide) bA cap w ha hb hc hcap hcl (fun w => by unfold nameCells; simp [go_sem, Instr.index, asIntOf, run_underlying Tryd.underlying37]) (fun w => shape_4 a b c w) htab, fun bA of cap w hcap hcl => rtext_o 4 (by omega) a b c ⟨#[97, 100, 100]⟩ (by decide) bA of cap w ha hb hc hcap hcl rfl⟩
theorem same_5 (a b c : Int) (ha : 0 ≤ a ∧ a ≤ 255) (hb : 0 ≤ b ∧ b ≤ 255) (hc : 0 ≤ c ∧ c ≤ 255) : TextSame 5 a b c :=
  ⟨_, fun bA cap w hcap hcl htab => text_n3 5 (by omega) (by decide) (by decide) a b c 3 ⟨#[115, 117, 98]⟩ (by decide) bA cap w ha hb hc hcap hcl (fun w => by unfold nameCells; simp [go_sem, Instr.index, asIntOf, run_underlying Tryd.underlying37]) (fun w => shape_5 a b c w) htab, fun bA of cap w hcap hcl => rtext_o 5 (by omega) a b c ⟨#[115, 117, 98]⟩ (by decide) bA of cap w ha hb hc hcap hcl rfl⟩
theorem same_6 (a b c : Int) (ha : 0 ≤ a ∧ a ≤ 255) (hb : 0 ≤ b ∧ b ≤ 255) (hc : 0 ≤ c ∧ c ≤ 255) : TextSame 6 a b c :=
  ⟨_, fun bA cap w hcap hcl htab => text_n3 6 (by omega) (by decide) (by decide) a b c 3 ⟨#[109, 117, 108]⟩ (by decide) bA cap w ha hb hc hcap hcl (fun w => by unfold nameCells; simp [go_sem, Instr.index, asIntOf, run_underlying Tryd.underlying37]) (fun w => shape_6 a b c w) htab, fun bA of cap w hcap hcl => rtext_o 6 (by omega) a b c ⟨#[109, 117, 108]⟩ (by decide) bA of cap w ha hb hc hcap hcl rfl⟩
theorem same_7 (a b c : Int) (ha : 0 ≤ a ∧ a ≤ 255) (hb : 0 ≤ b ∧ b ≤ 255) (hc : 0 ≤ c ∧ c ≤ 255) : TextSame 7 a b c :=
  ⟨_, fun bA cap w hcap hcl htab => text_n3 7 (by omega) (by decide) (by decide) a b c 3 ⟨#[97, 110, 100]⟩ (by decide) bA cap w ha hb hc hcap hcl (fun w => by unfold nameCells; simp [go_sem, Instr.index, asIntOf, run_underlying Tryd.underlying37]) (fun w => shape_7 a b c w) htab, fun bA of cap w hcap hcl => rtext_o 7 (by omega) a b c ⟨#[97, 110, 100]⟩ (by decide) bA of cap w ha hb hc hcap hcl rfl⟩
theorem same_8 (a b c : Int) (ha : 0 ≤ a ∧ a ≤ 255) (hb : 0 ≤ b ∧ b ≤ 255) (hc : 0 ≤ c ∧ c ≤ 255) : TextSame 8 a b c :=
  ⟨_, fun bA cap w hcap hcl htab => text_n3 8 (by omega) (by decide) (by decide) a b c 3 ⟨#[111, 114]⟩ (by decide) bA cap w ha hb hc hcap hcl (fun w => by unfold nameCells; simp [go_sem, Instr.index, asIntOf, run_underlying Tryd.underlying37]) (fun w => shape_8 a b c w) htab, fun bA of cap w hcap hcl => rtext_o 8 (by omega) a b c ⟨#[111, 114]⟩ (by decide) bA of cap w ha hb hc hcap hcl rfl⟩
theorem same_9 (a b c : Int) (ha : 0 ≤ a ∧ a ≤ 255) (hb : 0 ≤ b ∧ b ≤ 255) (hc : 0 ≤ c ∧ c ≤ 255) : TextSame 9 a b c :=
  ⟨_, fun bA cap w hcap hcl htab => text_n3 9 (by omega) (by decide) (by decide) a b c 3 ⟨#[120, 111, 114]⟩ (by decide) bA cap w ha hb hc hcap hcl (fun w => by unfold nameCells; simp [go_sem, Instr.index, asIntOf, run_underlying Tryd.underlying37]) (fun w => shape_9 a b c w) htab, fun bA of cap w hcap hcl => rtext_o 9 (by omega) a b c ⟨#[120, 111, 114]⟩ (by decide) bA of cap w ha hb hc hcap hcl rfl⟩
theorem same_10 (a b c : Int) (ha : 0 ≤ a ∧ a ≤ 255) (hb : 0 ≤ b ∧ b ≤ 255) (hc : 0 ≤ c ∧ c ≤ 255) : TextSame 10 a b c :=
  ⟨_, fun bA cap w hcap hcl htab => text_n3 10 (by omega) (by decide) (by decide) a b c 3 ⟨#[117, 112]⟩ (by decide) bA cap w ha hb hc hcap hcl (fun w => by unfold nameCells; simp [go_sem, Instr.index, asIntOf, run_underlying Tryd.underlying37]) (fun w => shape_10 a b c w) htab, fun bA of cap w hcap hcl => rtext_o 10 (by omega) a b c ⟨#[117, 112]⟩ (by decide) bA of cap w ha hb hc hcap hcl rfl⟩
theorem same_11 (a b c : Int) (ha : 0 ≤ a ∧ a ≤ 255) (hb : 0 ≤ b ∧ b ≤ 255) (hc : 0 ≤ c ∧ c ≤ 255) : TextSame 11 a b c :=
  ⟨_, fun bA cap w hcap hcl htab => text_n3 11 (by omega) (by decide) (by decide) a b c 3 ⟨#[100, 111, 119, 110]⟩ (by decide) bA cap w ha hb hc hcap hcl (fun w => by unfold nameCells; simp [go_sem, Instr.index, asIntOf, run_underlying Tryd.underlying37]) (fun w => shape_11 a b c w) htab, fun bA of cap w hcap hcl => rtext_o 11 (by omega) a b c ⟨#[100, 111, 119, 110]⟩ (by decide) bA of cap w ha hb hc hcap hcl rfl⟩
theorem same_12 (a b c : Int) (ha : 0 ≤ a ∧ a ≤ 255) (hb : 0 ≤ b ∧ b ≤ 255) (hc : 0 ≤ c ∧ c ≤ 255) : TextSame 12 a b c :=
  ⟨_, fun bA cap w hcap hcl htab => text_n3 12 (by omega) (by decide) (by decide) a b c 3 ⟨#[108, 101, 115, 115]⟩ (by decide) bA cap w ha hb hc hcap hcl (fun w => by unfold nameCells; simp [go_sem, Instr.index, asIntOf, run_underlying Tryd.underlying37]) (fun w => shape_12 a b c w) htab, fun bA of cap w hcap hcl => rtext_o 12 (by omega) a b c ⟨#[108, 101, 115, 115]⟩ (by decide) bA of cap w ha hb hc hcap hcl rfl⟩
theorem same_13 (a b c : Int) (ha : 0 ≤ a ∧ a ≤ 255) (hb : 0 ≤ b ∧ b ≤ 255) (hc : 0 ≤ c ∧ c ≤ 255) : TextSame 13 a b c :=
  ⟨_, fun bA cap w hcap hcl htab => text_n3 13 (by omega) (by decide) (by decide) a b c 2 ⟨#[108, 111, 97, 100]⟩ (by decide) bA cap w ha hb hc hcap hcl (fun w => by unfold nameCells; simp [go_sem, Instr.index, asIntOf, run_underlying Tryd.underlying37]) (fun w => shape_13 a b c w) htab, fun bA of cap w hcap hcl => rtext_o 13 (by omega) a b c ⟨#[108, 111, 97, 100]⟩ (by decide) bA of cap w ha hb hc hcap hcl rfl⟩
theorem same_14 (a b c : Int) (ha : 0 ≤ a ∧ a ≤ 255) (hb : 0 ≤ b ∧ b ≤ 255) (hc : 0 ≤ c ∧ c ≤ 255) : TextSame 14 a b c :=
  ⟨_, fun bA cap w hcap hcl htab => text_n3 14 (by omega) (by decide) (by decide) a b c 2 ⟨#[98, 121, 116, 101]⟩ (by decide) bA cap w ha hb hc hcap hcl (fun w => by unfold nameCells; simp [go_sem, Instr.index, asIntOf, run_underlying Tryd.underlying37]) (fun w => shape_14 a b c w) htab, fun bA of cap w hcap hcl => rtext_o 14 (by omega) a b c ⟨#[98, 121, 116, 101]⟩ (by decide) bA of cap w ha hb hc hcap hcl rfl⟩
theorem same_15 (a b c : Int) (ha : 0 ≤ a ∧ a ≤ 255) (hb : 0 ≤ b ∧ b ≤ 255) (hc : 0 ≤ c ∧ c ≤ 255) : TextSame 15 a b c :=
  ⟨_, fun bA cap w hcap hcl htab => text_n3 15 (by omega) (by decide) (by decide) a b c 2 ⟨#[115, 116, 111, 114, 101]⟩ (by decide) bA cap w ha hb hc hcap hcl (fun w => by unfold nameCells; simp [go_sem, Instr.index, asIntOf, run_underlying Tryd.underlying37]) (fun w => shape_15 a b c w) htab, fun bA of cap w hcap hcl => rtext_o 15 (by omega) a b c ⟨#[115, 116, 111, 114, 101]⟩ (by decide) bA of cap w ha hb hc hcap hcl rfl⟩
theorem same_16 (a b c : Int) (ha : 0 ≤ a ∧ a ≤ 255) (hb : 0 ≤ b ∧ b ≤ 255) (hc : 0 ≤ c ∧ c ≤ 255) : TextSame 16 a b c :=
  ⟨_, fun bA cap w hcap hcl htab => text_n3 16 (by omega) (by decide) (by decide) a b c 2 ⟨#[112, 117, 116]⟩ (by decide) bA cap w ha hb hc hcap hcl (fun w => by unfold nameCells; simp [go_sem, Instr.index, asIntOf, run_underlying Tryd.underlying37]) (fun w => shape_16 a b c w) htab, fun bA of cap w hcap hcl => rtext_o 16 (by omega) a b c ⟨#[112, 117, 116]⟩ (by decide) bA of cap w ha hb hc hcap hcl rfl⟩
theorem same_17 (a b c : Int) (ha : 0 ≤ a ∧ a ≤ 255) (hb : 0 ≤ b ∧ b ≤ 255) (hc : 0 ≤ c ∧ c ≤ 255) : TextSame 17 a b c :=
  ⟨_, fun bA cap w hcap hcl htab => text_n1 17 (by omega) (by decide) (by decide) a b c 1 ⟨#[106, 117, 109, 112]⟩ (by decide) bA cap w ha hb hc hcap hcl (fun w => by unfold nameCells; simp [go_sem, Instr.index, asIntOf, run_underlying Tryd.underlying37]) (fun w => shape_17 a b c w) htab, fun bA of cap w hcap hcl => rtext_17 a b c ⟨#[106, 117, 109, 112]⟩ (by decide) bA of cap w ha hb hc hcap hcl rfl⟩
theorem same_18 (a b c : Int) (ha : 0 ≤ a ∧ a ≤ 255) (hb : 0 ≤ b ∧ b ≤ 255) (hc : 0 ≤ c ∧ c ≤ 255) : TextSame 18 a b c :=
  ⟨_, fun bA cap w hcap hcl htab => text_f18 a b c 1 ⟨#[122, 101, 114, 111]⟩ (by decide) bA cap w ha hb hc hcap hcl (fun w => by unfold nameCells; simp [go_sem, Instr.index, asIntOf, run_underlying Tryd.underlying37]) (fun w => shape_18 a b c w) htab, fun bA of cap w hcap hcl => by
    by_cases hbig : 32768 ≤ b + 256 * c
    · exact rtext_18b a b c hbig ⟨#[122, 101, 114, 111]⟩ (by decide) bA of cap w ha hb hc hcap hcl rfl
    · exact rtext_18 a b c hbig ⟨#[122, 101, 114, 111]⟩ (by decide) bA of cap w ha hb hc hcap hcl rfl⟩
theorem same_19 (a b c : Int) (ha : 0 ≤ a ∧ a ≤ 255) (hb : 0 ≤ b ∧ b ≤ 255) (hc : 0 ≤ c ∧ c ≤ 255) : TextSame 19 a b c :=
  ⟨_, fun bA cap w hcap hcl htab => text_f19 a b c 1 ⟨#[115, 111, 109, 101]⟩ (by decide) bA cap w ha hb hc hcap hcl (fun w => by unfold nameCells; simp [go_sem, Instr.index, asIntOf, run_underlying Tryd.underlying37]) (fun w => shape_19 a b c w) htab, fun bA of cap w hcap hcl => by
    by_cases hbig : 32768 ≤ b + 256 * c
    · exact rtext_19b a b c hbig ⟨#[115, 111, 109, 101]⟩ (by decide) bA of cap w ha hb hc hcap hcl rfl
    · exact rtext_19 a b c hbig ⟨#[115, 111, 109, 101]⟩ (by decide) bA of cap w ha hb hc hcap hcl rfl⟩
theorem same_20 (a b c : Int) (ha : 0 ≤ a ∧ a ≤ 255) (hb : 0 ≤ b ∧ b ≤ 255) (hc : 0 ≤ c ∧ c ≤ 255) : TextSame 20 a b c :=
  ⟨_, fun bA cap w hcap hcl htab => text_n0k 20 (by omega) (by decide) (by decide) a b c 0 ⟨#[99, 97, 108, 108]⟩ (by decide) bA cap w ha hb hc hcap hcl (fun w => by unfold nameCells; simp [go_sem, Instr.index, asIntOf, run_underlying Tryd.underlying37]) (fun w => shape_20 a b c w) htab, fun bA of cap w hcap hcl => rtext_20 a b c ⟨#[99, 97, 108, 108]⟩ (by decide) bA of cap w ha hb hc hcap hcl rfl⟩

theorem text_same (o a b c : Int) (ho : 0 ≤ o ∧ o ≤ 20) (ha : 0 ≤ a ∧ a ≤ 255) (hb : 0 ≤ b ∧ b ≤ 255) (hc : 0 ≤ c ∧ c ≤ 255) : TextSame o a b c := by
  rcases (show o = 0 ∨ o = 1 ∨ o = 2 ∨ o = 3 ∨ o = 4 ∨ o = 5 ∨ o = 6 ∨ o = 7 ∨ o = 8 ∨ o = 9 ∨ o = 10 ∨ o = 11 ∨ o = 12 ∨ o = 13 ∨ o = 14 ∨ o = 15 ∨ o = 16 ∨ o = 17 ∨ o = 18 ∨ o = 19 ∨ o = 20 by omega) with rfl | rfl | rfl | rfl | rfl | rfl | rfl | rfl | rfl | rfl | rfl | rfl | rfl | rfl | rfl | rfl | rfl | rfl | rfl | rfl | rfl
  · exact same_0 a b c ha hb hc
  · exact same_1 a b c ha hb hc
  · exact same_2 a b c ha hb hc
  · exact same_3 a b c ha hb hc
  · exact same_4 a b c ha hb hc
  · exact same_5 a b c ha hb hc
  · exact same_6 a b c ha hb hc
  · exact same_7 a b c ha hb hc
  · exact same_8 a b c ha hb hc
  · exact same_9 a b c ha hb hc
  · exact same_10 a b c ha hb hc
  · exact same_11 a b c ha hb hc
  · exact same_12 a b c ha hb hc
  · exact same_13 a b c ha hb hc
  · exact same_14 a b c ha hb hc
  · exact same_15 a b c ha hb hc
  · exact same_16 a b c ha hb hc
  · exact same_17 a b c ha hb hc
  · exact same_18 a b c ha hb hc
  · exact same_19 a b c ha hb hc
  · exact same_20 a b c ha hb hc

/-- Less or more than four bytes. -/
theorem text_len (q : Option Addr) (n cap : Nat) (hn : n ≠ 4) (w : World) : Calls Tryd.prog 5 #[.slice q n cap] w fun e w' => e = .returned (.tuple #[.string ⟨#[]⟩, .int .i64 1]) ∧ Mod No w w' := by
  have h1 : ((n : Int) == 4) = false := beq_eq_false_iff_ne.2 (by omega)
  have h2 : ((n : Int) != 4) = true := by rw [bne, h1]; rfl
  have h3 : ¬ ((n : Int) = 4) := by omega
  go_enter Tryd.func5, Tryd.ntmps5
  go_wp2
  go_ret2
  exact ⟨rfl, Mod.refl No w⟩
theorem rtext_len (q : Option Addr) (n cap : Nat) (hn : n ≠ 4) (w : World) : Calls Tryd.prog 6 #[.slice q n cap] w fun e w' => e = .returned (.tuple #[.string ⟨#[]⟩, .int .i64 1]) ∧ Mod No w w' := by
  have h1 : ((n : Int) == 4) = false := beq_eq_false_iff_ne.2 (by omega)
  have h2 : ((n : Int) != 4) = true := by rw [bne, h1]; rfl
  have h3 : ¬ ((n : Int) = 4) := by omega
  go_enter Tryd.func6, Tryd.ntmps6
  go_wp2
  go_ret2
  exact ⟨rfl, Mod.refl No w⟩
/-- No operator. -/
theorem text_op (o a b c : Int) (ho : 20 < o) (bA cap : Nat) (w : World) (hcap : 4 ≤ cap) (hcl : FourAt w bA 0 o a b c) : Calls Tryd.prog 5 #[.slice (some ⟨bA, 0, none⟩) 4 cap] w fun e w' => e = .returned (.tuple #[.string ⟨#[]⟩, .int .i64 191]) ∧ Mod No w w' := by
  obtain ⟨c0, c1, c2, c3⟩ := hcl w (Mod.refl No w)
  have hbl : bA < w.heap.size := World.block_lt_of_cell? w _ c0
  clear hcl
  have q1 : (2 : Int) ≤ (cap : Int) := by omega
  have q2 : (3 : Int) ≤ (cap : Int) := by omega
  have q3 : (4 : Int) ≤ (cap : Int) := by omega
  have q4 : cap ≠ 1 := by omega
  have q5 : (1 : Int) ≤ (cap : Int) := by omega
  go_enter Tryd.func5, Tryd.ntmps5
  go_upto_region 3 with (fail)
  go_region
  have hm1 : Mod No w (w.alloc (.cells #[.int .u8 o, .int .u8 a, .int .u8 b, .int .u8 c] 36)).drew := ((Mod.refl No w).alloc _).drew
  have hB : (w.alloc (.cells #[.int .u8 o, .int .u8 a, .int .u8 b, .int .u8 c] 36)).drew.heap[w.heap.size]? = some (.cells ([.int .u8 o, .int .u8 a, .int .u8 b, .int .u8 c] : List Value).toArray 36 (0, 0)) := heap_alloc_new w _
  generalize (w.alloc (.cells #[.int .u8 o, .int .u8 a, .int .u8 b, .int .u8 c] 36)).drew = w1 at hm1 hB ⊢
  generalize w.heap.size = bB at hB ⊢
  have HM1 := Lib.hid hm1
  have i0 : w1.cell? ⟨bB, 0, none⟩ = some (.int .u8 o) := row_cell hB 0
  clear hm1 hB c0 c1 c2 c3 hbl
  go_wp2
  go_ret2
  exact ⟨rfl, HM1.out⟩
theorem rtext_op (o a b c : Int) (ho : 20 < o) (bA of cap : Nat) (w : World) (hcap : 4 ≤ cap) (hcl : FourAt w bA of o a b c) : Calls Tryd.prog 6 #[.slice (some ⟨bA, of, none⟩) 4 cap] w fun e w' => e = .returned (.tuple #[.string ⟨#[]⟩, .int .i64 191]) ∧ Mod No w w' := by
  obtain ⟨c0, _⟩ := hcl w (Mod.refl No w)
  have hbl : bA < w.heap.size := World.block_lt_of_cell? w _ c0
  clear hcl
  have q5 : (1 : Int) ≤ (cap : Int) := by omega
  go_enter Tryd.func6, Tryd.ntmps6
  go_wp2
  go_ret2
  exact ⟨rfl, Mod.refl No w⟩

end Go.Proofs.YtapnodlmfapjlaaDoor
