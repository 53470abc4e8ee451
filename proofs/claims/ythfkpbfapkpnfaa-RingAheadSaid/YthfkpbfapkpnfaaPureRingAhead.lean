/- RingAhead: the two ways of saying how many requests lie ahead agree, clamped or not, for all two indexes of 16 bits. No condition. -/
import Derived.Test.YthfkpbfapkpnfaaPRingAheadx1
import Derived.OpenShut
import Derived.Laws.BitsAllLaws
namespace Go.Proofs.Ythfkpbfapkpnfaa.Pure
open Go.RowKit Go.Proofs.Ythfkpbfapkpnfaa.PRingAhead Go.Proofs.YthfkpbfapkpnfaaW.PrintWords Go.Proofs.YthfkpbfapkpnfaaW.PrintLast

theorem RingAhead : tenementlaw08_RingAhead.Pure := by
  intro a0 a1 h0 h1
  have b0 := bounds_u16 h0
  have b1 := bounds_u16 h1
  unfold tenementlaw08_RingAhead.f ring_Ahead.f tenementref08_Ahead.f
  simp only [IntKind.wrap_u16]
  have e : wrap64 ((a0 - a1) % 65536) = (a0 - a1) % 65536 := by unfold wrap64; omega
  rw [e]
  by_cases h : (a0 - a1) % 65536 > 8
  · simp [h]
  · simp only [h, if_false, Option.bind_some, bne_self_eq_false, Bool.false_eq_true, if_true]
    rw [if_neg (by omega)]
    have e2 : (a1 + (a0 - a1) % 65536 % 65536) % 65536 = a0 := by omega
    rw [e2]; simp

end Go.Proofs.Ythfkpbfapkpnfaa.Pure
