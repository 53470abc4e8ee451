/- phys.Machine: Copy. -/
import Derived.Test.YthfkpbfapkpnfabPhysNew
import Derived.OwnWalk
namespace Go.Proofs.Ythfkpbfapkpnfab
open Go.RowKit
set_option maxRecDepth 100000

theorem copy_none {p : Option Addr} (w : World) (h : NoM w p) :
    Calls Try.prog 23 #[.pointer p] w fun e W' => e = .returned (.pointer none) ∧ w = W' := by
  go_enter Try.func23, Try.ntmps23
  go_wp2_with (go_at_call 63; refine (none_none p _ h).mono ?_; rintro e w' ⟨rfl, rfl⟩)
  go_ret
  exact ⟨rfl, rfl⟩

theorem cells_one {S : List Fr} : ∀ v ∈ allCells S, v.oneCell' = true := by
  intro v hv
  simp only [allCells, List.mem_flatMap] at hv
  obtain ⟨f, _, hv⟩ := hv
  simp only [Fr.cells, List.mem_cons, List.mem_map] at hv
  rcases hv with rfl | rfl | rfl | rfl | ⟨b, _, rfl⟩ <;> rfl

theorem PhM.of_own {w : World} {B n₀ : Nat} {S : List Fr} {v : Value} (ho : okS S) (hl : 1 ≤ S.length ∧ S.length ≤ 256) (h : w.ownsRow n₀ 122 260 v S.length (allCells S))
    (hB : w.heap[B]? = some (.cells #[.bool true, v] 25 (0, 0))) : ∃ F, n₀ ≤ F ∧ PhM w B F S := by
  rcases h.2 with ⟨_, h2⟩ | ⟨g, cap, cur, rfl, hg, hr, hc, hm, hs, ht⟩
  · omega
  · refine ⟨g, hg, ho, hl, ⟨cap, hc, hB⟩, ⟨cur.toList.drop (S.length * 260), ?_⟩⟩
    rw [hr, ← ht, List.take_append_drop]

theorem own_pos {W : World} {b : Nat} {e : TypeId} {size : Nat} {v : Value} {k : Nat} {xs : List Value} (h : W.ownsRow b e size v k xs) (hk : 0 < k) : ∃ g cap, v = .slice (some ⟨g, 0, none⟩) k cap := by
  rcases h.2 with ⟨_, h0⟩ | ⟨g, cap, _, rfl, _⟩
  · omega
  · exact ⟨_, _, rfl⟩

set_option maxHeartbeats 800000 in
theorem copy_in {B F : Nat} {S : List Fr} (w : World) (h : PhM w B F S) :
    Calls Try.prog 23 #[.pointer (some ⟨B, 0, none⟩)] w fun e W' => ∃ B' F', e = .returned (.pointer (some ⟨B', 0, none⟩)) ∧ w.heap.size ≤ B' ∧ w.heap.size ≤ F' ∧ Mod No w W' ∧ PhM W' B' F' S := by
  obtain ⟨i, hi, hz0, hz1, hz2⟩ := info_parts Try.infoFrame
  obtain ⟨c, hc, hfr⟩ := h.frames
  have h0 := h.made
  have hlen := h.len
  have hok := h.ok
  have hac := allCells_len hok
  have hcells : ∀ j u, (allCells S)[j]? = some u → w.cell? ((⟨F, 0, none⟩ : Addr).add j) = some u := by
    intro j u hj
    obtain ⟨r, hr⟩ := h.row
    have hjl := (List.getElem?_eq_some_iff.1 hj).1
    rw [Addr.add_lit, Nat.zero_add, row_cell hr, List.getElem?_append_left hjl, hj]
  have HC := Lib.hid hcells; clear hcells
  have HO := Lib.hid hok; clear hok
  have HA := Lib.hid hac; clear hac
  go_enter Try.func23, Try.ntmps23
  go_wp2_with (first
    | (go_at_call 63; refine (none_made B _ h0).mono ?_; rintro e w' ⟨rfl, rfl⟩)
    | (at_builtin; refine wpList_append_own _ rfl _ _ 23 rfl w.heap.size 122 i _ 260 288 Try.underlying23 hi hz0 hz1 hz2 (Fr.len zeroFr_ok) (by decide) (.slice none 0 0) 0 [] rfl (World.ownsRow_nil _ _ _ _) ⟨F, 0, none⟩ S.length c (allCells S) rfl HA.out HC.out cells_one (by unfold maxLen; omega) (by omega) (Nat.le_refl _) ?_; intro v' w1 hown hgrow _; rw [Nat.zero_add, List.nil_append] at hown; obtain ⟨g', cap', rfl⟩ := own_pos hown (by omega)))
  go_ret
  have hm1 : Mod No w w1 := (Mod.refl No w).grown hgrow (fun k e => by cases e)
  have hs1 := hgrow.size
  obtain ⟨F', hF', hP⟩ := PhM.of_own (B := w1.heap.size) HO.out hlen (hown.alloc (.cells #[.bool true, .slice (some ⟨g', 0, none⟩) S.length cap'] 25)) (heap_alloc_new _ _)
  exact ⟨_, rfl, hs1, F', hF', hm1.alloc _, hP⟩

end Go.Proofs.Ythfkpbfapkpnfab
