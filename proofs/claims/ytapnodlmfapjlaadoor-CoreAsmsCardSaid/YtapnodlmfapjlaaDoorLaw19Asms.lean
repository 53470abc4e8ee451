/- tenementlaw19.CoreAsms: instructions as bytes. -/
import Derived.Test.YtapnodlmfapjlaaDoorCoreAsm
namespace Go.Proofs.YtapnodlmfapjlaaDoor
open Go.RowKit
set_option maxRecDepth 100000

theorem conv_own4 {w : World} {g : Nat} {q : Option Addr} {c2 : Nat} {L : List Int} (hL : L.length = 4) (h : w.ownsRow g 5 1 (.slice q 4 c2) 4 (L.map (Value.int .u8))) :
    (convert 22 9 (.slice q 4 c2)).run Tryd.prog w = .ok (.string (strOfNums L)) w := by
  rcases h.2 with ⟨_, e⟩ | ⟨b, cap, cur, e, hb, hr, r⟩
  · omega
  · cases e
    refine run_convert_bytes_arg w 22 5 Tryd.underlying22 Tryd.underlying5 b 0 4 c2 L hL (fun i hi => ?_) 9 Tryd.underlying9
    have hl : i < L.length := by omega
    have := h.cells (g := b) rfl i (.int .u8 (L[i])) (by rw [List.getElem?_map, List.getElem?_eq_getElem hl]; rfl)
    rw [Addr.add_lit] at this
    rw [this, List.getD_eq_getElem?_getD, List.getElem?_eq_getElem hl]
    rfl

set_option maxHeartbeats 4000000 in
theorem coreasms_any (a b c d : Int) (w : World) : Calls Tryd.prog 4 #[.int .i64 a, .int .i64 b, .int .i64 c, .int .i64 d] w fun e w' => e = .returned (.bool true) ∧ Mod No w w' := by
  have HA1 := Lib.hid (asm_any a b c d w)
  have HA2 := Lib.hid (fun w' => rasm_any a b c d w')
  go_enter Tryd.func4, Tryd.ntmps4
  by_cases hall : AllB [a, b, c, d]
  · go_wp2_with fail
    refine HA1.out.mono ?_
    rintro e w1 ⟨hm1, ⟨hn, _⟩ | ⟨_, q, c2, g, rfl, ho1⟩⟩
    · exact absurd hall hn
    have HO1 := Lib.hid ho1
    have HM1 := Lib.hid hm1
    clear ho1 hm1
    go_wp2_with fail
    refine (HA2.out w1).mono ?_
    rintro e w2 ⟨hm2, ⟨hn, _⟩ | ⟨_, q2, c3, g2, rfl, ho2⟩⟩
    · exact absurd hall hn
    have hv1 := conv_own4 (L := [a, b, c, d]) rfl (own_kept HO1.out hm2 (fun _ _ q => q))
    have hv2 := conv_own4 (L := [a, b, c, d]) rfl ho2
    have HM2 := Lib.hid (HM1.out.trans hm2)
    clear hm2 ho2 hall
    go_wp2_with (go_at_call 7; refine (awake19_yes _).mono ?_; rintro e w3 ⟨rfl, h3⟩)
    go_ret
    exact ⟨rfl, HM2.out.trans h3⟩
  · go_wp2_with fail
    refine HA1.out.mono ?_
    rintro e w1 ⟨hm1, ⟨_, rfl⟩ | ⟨hn, _⟩⟩
    case inr => exact absurd hn hall
    have HM1 := Lib.hid hm1
    clear hm1
    go_wp2_with fail
    refine (HA2.out w1).mono ?_
    rintro e w2 ⟨hm2, ⟨_, rfl⟩ | ⟨hn, _⟩⟩
    case inr => exact absurd hn hall
    have hv1 := run_convert_bytes_nil w2 22 5 Tryd.underlying22 Tryd.underlying5 0 0 9 Tryd.underlying9
    have HM2 := Lib.hid (HM1.out.trans hm2)
    clear hm2 hall
    go_wp2_with (go_at_call 7; refine (awake19_yes _).mono ?_; rintro e w3 ⟨rfl, h3⟩)
    go_ret
    exact ⟨rfl, HM2.out.trans h3⟩

end Go.Proofs.YtapnodlmfapjlaaDoor
