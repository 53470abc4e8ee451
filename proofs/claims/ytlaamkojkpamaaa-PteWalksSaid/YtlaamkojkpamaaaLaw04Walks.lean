/- tenementlaw04.PteWalks: the walk. -/
import Derived.Test.YtlaamkojkpamaaaLaw04Begin
import Derived.Test.YtlaamkojkpamaaaPteWalk2
import Derived.Test.YtlaamkojkpamaaaLaw04Awake
namespace Go.Proofs.Ytlaamkojkpamaaa
open Go.RowKit
set_option maxRecDepth 100000

set_option maxHeartbeats 2000000 in
theorem walks_any (n : Int) (hn : 0 ≤ n ∧ n ≤ 255) (p : Option Addr) (ops : List PutD) (cap : Nat) (root va : Int) (wr : Bool) (idx : Int) (w : World) (hs : PutDS w p ops) (hlen : ops.length * 24 ≤ 140737488355328) (hva : 0 ≤ va ∧ va ≤ 4294967295) :
    Calls Try.prog 5 #[.int .u8 n, .slice p ops.length cap, .int .i64 root, .int .u32 va, .bool wr, .int .i64 idx] w fun e w' => e = .returned (.bool true) ∧ Mod No w w' := by
  obtain ⟨N, hN⟩ : ∃ N : Nat, (N : Int) = 1 + n % 8 := ⟨(1 + n % 8).toNat, by omega⟩
  have HB := Lib.hid (begin4_in N (by omega) (by omega) p ops cap w hs hlen)
  clear hs
  go_enter Try.func5, Try.ntmps5
  go_wp2_with fail
  rw [← hN]
  refine HB.out.mono ?_
  rintro e w1 ⟨B, F, K, S, rfl, hrd, _⟩
  have HRD := Lib.hid hrd
  have HA1 := Lib.hid (at_any root idx w1 hrd.two.p)
  have HA2 : Hid (∀ w', Mod No w1 w' → _) := fun w' (hm : Mod No w1 w') => rat_any root idx w' (hrd.two.r.keptNo hm)
  have HW1 : Hid (∀ w', Mod No w1 w' → _) := fun w' (hm : Mod No w1 w') => walk_any root va wr w' (hrd.two.p.kept hm (fun q => q) (fun q => q)) hva.1 hva.2
  have HW2 : Hid (∀ w', Mod No w1 w' → _) := fun w' (hm : Mod No w1 w') => rwalk_any root va wr w' (hrd.two.r.keptNo hm) hva.1 hva.2
  have hmod := hrd.mod
  obtain ⟨R, hR⟩ : ∃ R, R = K.R := ⟨_, rfl⟩
  rw [← hR] at HA2 HW2
  rw [← hR]
  generalize (atR S root idx).1 = x at HA1 HA2
  generalize (atR S root idx).2 = ex at HA1 HA2
  generalize walkR S root va wr = r at HW1 HW2
  obtain ⟨r1, r2, r3⟩ := r
  clear hR hrd hN HB
  go_wp2_with fail
  refine HA1.out.mono ?_
  rintro e w2 ⟨rfl, hm2⟩
  go_wp2_with fail
  refine (HA2.out _ hm2).mono ?_
  rintro e w3 ⟨rfl, hm3⟩
  have hm13 := hm2.trans hm3
  clear hm2 hm3
  go_wp2_with fail
  refine (HW1.out _ hm13).mono ?_
  rintro e w4 ⟨rfl, hm4⟩
  have hm14 := hm13.trans hm4
  clear hm13 hm4
  go_wp2_with fail
  refine (HW2.out _ hm14).mono ?_
  rintro e w5 ⟨rfl, hm5⟩
  have hm15 := hmod.trans (hm14.trans hm5)
  clear hm14 hm5
  go_wp2_with (go_at_call 28; refine (awake4 _).mono ?_; rintro e w' ⟨rfl, hm⟩)
  go_ret
  exact ⟨rfl, hm15.trans hm⟩

end Go.Proofs.Ytlaamkojkpamaaa
