/- The console tells the guest how many bytes it has moved. -/
import Derived.Test.YtmdeljacbekbpaaDoorConsOps
namespace Go.Proofs.YtmdeljacbekbpaaDoor
open Go.RowKit
set_option maxRecDepth 100000

theorem tell_out {B F b base top : Nat} {vk : ViK} {N : Int} {l : List Pk} {S : List Fr} {c : Co} {lv pv : Value} (w : World) (h : CW B F b base top vk N l S c lv pv w) :
    Calls Tryd.prog 43 #[.pointer (some ⟨b, 2, none⟩), .pointer (some ⟨vk.V, 0, none⟩), .int .i64 c.mfn] w fun e w' => e = .returned (.tuple #[]) ∧ CW B F b base top vk N l (wrR S c.mfn 2 (twoB c.om)) c lv pv w' ∧ Mod (One F) w w' :=
  ptell (o := 2) w (fun w' => CW B F b base top vk N l (wrR S c.mfn 2 (twoB c.om)) c lv pv w' ∧ Mod (One F) w w') (h.co.at_ 5) (h.co.at_ 6) h.ok.o (fun w' hm g hg => by
    refine (vwrite_cw c.mfn 2 (some ⟨g, 0, none⟩) 2 (twoB c.om) w' (h.no hm) (Src.row hg (twoB_range h.ok.o))).mono ?_
    rintro e w2 ⟨rfl, hc, hm2⟩
    exact ⟨⟨_, rfl⟩, ⟨hc, (Mod.of_no hm).trans hm2⟩, hc.co.at_ 5, hc.co.at_ 6⟩)
theorem tell_in {B F b base top : Nat} {vk : ViK} {N : Int} {l : List Pk} {S : List Fr} {c : Co} {lv pv : Value} (w : World) (h : CW B F b base top vk N l S c lv pv w) :
    Calls Tryd.prog 43 #[.pointer (some ⟨b, 7, none⟩), .pointer (some ⟨vk.V, 0, none⟩), .int .i64 c.mfn] w fun e w' => e = .returned (.tuple #[]) ∧ CW B F b base top vk N l (wrR S c.mfn 6 (twoB c.im)) c lv pv w' ∧ Mod (One F) w w' :=
  ptell (o := 7) w (fun w' => CW B F b base top vk N l (wrR S c.mfn 6 (twoB c.im)) c lv pv w' ∧ Mod (One F) w w') (h.co.at_ 10) (h.co.at_ 11) h.ok.i (fun w' hm g hg => by
    refine (vwrite_cw c.mfn 6 (some ⟨g, 0, none⟩) 2 (twoB c.im) w' (h.no hm) (Src.row hg (twoB_range h.ok.i))).mono ?_
    rintro e w2 ⟨rfl, hc, hm2⟩
    exact ⟨⟨_, rfl⟩, ⟨hc, (Mod.of_no hm).trans hm2⟩, hc.co.at_ 10, hc.co.at_ 11⟩)

end Go.Proofs.YtmdeljacbekbpaaDoor
