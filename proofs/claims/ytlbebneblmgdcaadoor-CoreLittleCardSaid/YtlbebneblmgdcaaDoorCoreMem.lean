/- core: the operators on memory. (Printed by wip/gen_mem.py.) -/
import Derived.Test.YtlbebneblmgdcaaDoorCoreLoad
import Derived.Test.YtlbebneblmgdcaaDoorCoreStore
namespace Go.Proofs.YtlbebneblmgdcaaDoor
open Go.RowKit
set_option maxRecDepth 100000

theorem DoP.pre {w w1 : World} {P : Nat} {R : List Int} {pc : Int} {mv : Value} {root : Int} {st : List Value} {e : Ending} {w' : World} (hm : Mod No w w1) (h : DoP w1 P R pc mv root st e w') : DoP w P R pc mv root st e w' := ⟨h.1, h.2.1, hm.of_no.trans h.2.2⟩
theorem DoS.pre {w w1 : World} {P B F : Nat} {R : List Int} {pc : Int} {root : Int} {st : List Value} {S : List Fr} {e : Ending} {w' : World} (hm : Mod No w w1) (h : DoS w1 P B F R pc root st S e w') : DoS w P B F R pc root st S e w' := ⟨h.1, h.2.1, h.2.2.1, hm.of_no.trans h.2.2.2⟩

set_option maxHeartbeats 4000000 in
theorem do_word {B F : Nat} {S : List Fr} (P a b : Nat) (c : Int) (o : Int) (R : List Int) (pc : Int) (root : Int) (w : World) (hm : PhM w B F S) (h : CpuAt w P R pc (.pointer (some ⟨B, 0, none⟩)) root (stopL 0 0 0 0 0 0 0 0)) (hR : ∀ x ∈ R, 0 ≤ x ∧ x ≤ 4294967295) (ha : a < 8) (hb : b < 8) :
    Calls Tryd.prog 44 #[.pointer (some ⟨P, 0, none⟩), .agg #[.int .u8 o, .int .u8 a, .int .u8 b, .int .u8 c]] w (DoP w P (loadRegs S root R a b c 4) pc (.pointer (some ⟨B, 0, none⟩)) root (loadStop S root R b c 4)) := by
  have HL : Hid (∀ w', Mod No w w' → Calls Tryd.prog 64 #[.pointer (some ⟨P, 0, none⟩), .agg #[.int .u8 o, .int .u8 a, .int .u8 b, .int .u8 c], .int .i64 4] w' (DoP w' P (loadRegs S root R a b c 4) pc (.pointer (some ⟨B, 0, none⟩)) root (loadStop S root R b c 4))) := fun w' hm' => load_any P a b c 4 o R pc root w' (hm.kept hm' (fun q => q) (fun q => q)) (h.kept hm' (fun q => q)) hR ha hb (by omega)
  clear hm h hR
  generalize loadRegs S root R a b c 4 = R' at HL ⊢
  generalize loadStop S root R b c 4 = st' at HL ⊢
  go_enter Tryd.func44, Tryd.ntmps44
  go_wp2_with (go_at_call 64; refine (HL.out _ ((Mod.refl No w).alloc _)).mono ?_; rintro e w2 hd; obtain ⟨rfl, hrest⟩ := hd; have HD := Lib.hid hrest; clear hrest)
  go_end0
  exact DoP.pre ((Mod.refl No w).alloc _) ⟨rfl, HD.out⟩

set_option maxHeartbeats 4000000 in
theorem do_byte {B F : Nat} {S : List Fr} (P a b : Nat) (c : Int) (o : Int) (R : List Int) (pc : Int) (root : Int) (w : World) (hm : PhM w B F S) (h : CpuAt w P R pc (.pointer (some ⟨B, 0, none⟩)) root (stopL 0 0 0 0 0 0 0 0)) (hR : ∀ x ∈ R, 0 ≤ x ∧ x ≤ 4294967295) (ha : a < 8) (hb : b < 8) :
    Calls Tryd.prog 45 #[.pointer (some ⟨P, 0, none⟩), .agg #[.int .u8 o, .int .u8 a, .int .u8 b, .int .u8 c]] w (DoP w P (loadRegs S root R a b c 1) pc (.pointer (some ⟨B, 0, none⟩)) root (loadStop S root R b c 1)) := by
  have HL : Hid (∀ w', Mod No w w' → Calls Tryd.prog 64 #[.pointer (some ⟨P, 0, none⟩), .agg #[.int .u8 o, .int .u8 a, .int .u8 b, .int .u8 c], .int .i64 1] w' (DoP w' P (loadRegs S root R a b c 1) pc (.pointer (some ⟨B, 0, none⟩)) root (loadStop S root R b c 1))) := fun w' hm' => load_any P a b c 1 o R pc root w' (hm.kept hm' (fun q => q) (fun q => q)) (h.kept hm' (fun q => q)) hR ha hb (by omega)
  clear hm h hR
  generalize loadRegs S root R a b c 1 = R' at HL ⊢
  generalize loadStop S root R b c 1 = st' at HL ⊢
  go_enter Tryd.func45, Tryd.ntmps45
  go_wp2_with (go_at_call 64; refine (HL.out _ ((Mod.refl No w).alloc _)).mono ?_; rintro e w2 hd; obtain ⟨rfl, hrest⟩ := hd; have HD := Lib.hid hrest; clear hrest)
  go_end0
  exact DoP.pre ((Mod.refl No w).alloc _) ⟨rfl, HD.out⟩

set_option maxHeartbeats 4000000 in
theorem do_words {B F : Nat} {S : List Fr} (P a b : Nat) (c : Int) (o : Int) (R : List Int) (pc : Int) (root : Int) (w : World) (hm : PhM w B F S) (h : CpuAt w P R pc (.pointer (some ⟨B, 0, none⟩)) root (stopL 0 0 0 0 0 0 0 0)) (hR : ∀ x ∈ R, 0 ≤ x ∧ x ≤ 4294967295) (ha : a < 8) (hb : b < 8) (hPB : P ≠ B) (hPF : P ≠ F) :
    Calls Tryd.prog 46 #[.pointer (some ⟨P, 0, none⟩), .agg #[.int .u8 o, .int .u8 a, .int .u8 b, .int .u8 c]] w (DoS w P B F R pc root (putStop S root R a b c 4) (storeR S root ((R.getD b 0 + c) % 1048576) ((fourR (R.getD a 0)).take 4)).2) := by
  have HL : Hid (∀ w', Mod No w w' → Calls Tryd.prog 65 #[.pointer (some ⟨P, 0, none⟩), .agg #[.int .u8 o, .int .u8 a, .int .u8 b, .int .u8 c], .int .i64 4] w' (DoS w' P B F R pc root (putStop S root R a b c 4) (storeR S root ((R.getD b 0 + c) % 1048576) ((fourR (R.getD a 0)).take 4)).2)) := fun w' hm' => store_any P a b c 4 o R pc root w' (hm.kept hm' (fun q => q) (fun q => q)) (h.kept hm' (fun q => q)) hR ha hb (by omega) hPB hPF
  clear hm h hR
  generalize putStop S root R a b c 4 = st' at HL ⊢
  generalize (storeR S root ((R.getD b 0 + c) % 1048576) ((fourR (R.getD a 0)).take 4)).2 = S' at HL ⊢
  go_enter Tryd.func46, Tryd.ntmps46
  go_wp2_with (go_at_call 65; refine (HL.out _ ((Mod.refl No w).alloc _)).mono ?_; rintro e w2 hd; obtain ⟨rfl, hrest⟩ := hd; have HD := Lib.hid hrest; clear hrest)
  go_end0
  exact DoS.pre ((Mod.refl No w).alloc _) ⟨rfl, HD.out⟩

set_option maxHeartbeats 4000000 in
theorem do_put {B F : Nat} {S : List Fr} (P a b : Nat) (c : Int) (o : Int) (R : List Int) (pc : Int) (root : Int) (w : World) (hm : PhM w B F S) (h : CpuAt w P R pc (.pointer (some ⟨B, 0, none⟩)) root (stopL 0 0 0 0 0 0 0 0)) (hR : ∀ x ∈ R, 0 ≤ x ∧ x ≤ 4294967295) (ha : a < 8) (hb : b < 8) (hPB : P ≠ B) (hPF : P ≠ F) :
    Calls Tryd.prog 47 #[.pointer (some ⟨P, 0, none⟩), .agg #[.int .u8 o, .int .u8 a, .int .u8 b, .int .u8 c]] w (DoS w P B F R pc root (putStop S root R a b c 1) (storeR S root ((R.getD b 0 + c) % 1048576) ((fourR (R.getD a 0)).take 1)).2) := by
  have HL : Hid (∀ w', Mod No w w' → Calls Tryd.prog 65 #[.pointer (some ⟨P, 0, none⟩), .agg #[.int .u8 o, .int .u8 a, .int .u8 b, .int .u8 c], .int .i64 1] w' (DoS w' P B F R pc root (putStop S root R a b c 1) (storeR S root ((R.getD b 0 + c) % 1048576) ((fourR (R.getD a 0)).take 1)).2)) := fun w' hm' => store_any P a b c 1 o R pc root w' (hm.kept hm' (fun q => q) (fun q => q)) (h.kept hm' (fun q => q)) hR ha hb (by omega) hPB hPF
  clear hm h hR
  generalize putStop S root R a b c 1 = st' at HL ⊢
  generalize (storeR S root ((R.getD b 0 + c) % 1048576) ((fourR (R.getD a 0)).take 1)).2 = S' at HL ⊢
  go_enter Tryd.func47, Tryd.ntmps47
  go_wp2_with (go_at_call 65; refine (HL.out _ ((Mod.refl No w).alloc _)).mono ?_; rintro e w2 hd; obtain ⟨rfl, hrest⟩ := hd; have HD := Lib.hid hrest; clear hrest)
  go_end0
  exact DoS.pre ((Mod.refl No w).alloc _) ⟨rfl, HD.out⟩

end Go.Proofs.YtlbebneblmgdcaaDoor
