/- The laws on Show: awake; every row of bytes as a text. -/
import Derived.Test.YtmdeljacbekbpaaDoorRefShow
import Derived.Test.YtmdeljacbekbpaaDoorRefG
namespace Go.Proofs.YtmdeljacbekbpaaDoor
open Go.RowKit
set_option maxRecDepth 100000

theorem Byt.ofOwn {w : World} {base : Nat} {q : Option Addr} {n c : Nat} {bs : List Int} (h : w.ownsRow base 5 1 (.slice q n c) n (bs.map (Value.int .u8))) (hr : ∀ x ∈ bs, 0 ≤ x ∧ x ≤ 255) (hl : bs.length ≤ 140737488355328) :
    n = bs.length ∧ Byt w q bs c ∧ (∀ b off, q = some ⟨b, off, none⟩ → base ≤ b ∧ b < w.heap.size) := by
  have hn := h.1
  simp at hn
  rcases h.2 with ⟨e, h2⟩ | ⟨g, cap, cur, e, hg, hrow, hc, hm, hs, ht⟩
  · cases e
    obtain rfl : bs = [] := List.eq_nil_of_length_eq_zero (by omega)
    exact ⟨rfl, ⟨hr, Nat.le_refl _, hl, fun _ => ⟨rfl, rfl⟩, fun q => absurd q (by simp)⟩, fun b off q => by cases q⟩
  · cases e
    refine ⟨hn.symm, ⟨hr, (by omega), hl, (fun q => by cases q), fun _ => ⟨g, 0, rfl, lt_of_blk hrow, fun j x hj => ?_⟩⟩, (fun b off q => by cases q; exact ⟨hg, lt_of_blk hrow⟩)⟩
    have := h.cells (g := g) rfl j (.int .u8 x) (by rw [List.getElem?_map, hj]; rfl)
    rw [Addr.add_lit] at this
    exact this

/-- The program computes at all. -/
theorem awake16_yes (w : World) (hT : Lib.Utf8Tabs 0 1 w) : Calls Tryd.prog 11 #[] w fun e w' => e = .returned (.bool true) ∧ Mod No w w' := by
  have hb : ∀ o, Mod No w (w.alloc o) := fun o => (Mod.refl No w).alloc o
  have hs1 := fun o => (show_any (some ⟨w.heap.size, 0, none⟩) [97, 10] 2 (w.alloc (.cells #[.int .u8 97, .int .u8 10] 5)) ⟨by simp, by simp, by simp, by simp, fun _ => ⟨w.heap.size, 0, rfl, by simp, fun j x hj => by
    have h1 := row_cell (heap_alloc_new w (.cells #[.int .u8 97, .int .u8 10] 5)) j
    rw [Nat.zero_add, h1]
    match j with
    | 0 => simpa using hj
    | 1 => simpa using hj
    | j + 2 => simp at hj⟩⟩ (Utf8Tabs_below hT (o : Below _ w _)) (by simp))
  have HS := Lib.hid (hs1 (hb _).no_below)
  clear hs1
  go_enter Tryd.func11, Tryd.ntmps11
  go_wp2_with (go_at_call 9; refine HS.out.mono ?_; rintro e w2 ⟨rfl, h2⟩)
  go_ret
  exact ⟨rfl, ((Mod.refl No w).alloc _).trans (Mod.of_below h2)⟩

set_option maxHeartbeats 4000000 in
theorem shows_any (q : Option Addr) (bs : List Int) (cap : Nat) (w : World) (hb : Byt w q bs cap) (hT : Lib.Utf8Tabs 0 1 w) (hl : 4 * bs.length ≤ 140737488355328) :
    Calls Tryd.prog 3 #[.slice q bs.length cap] w fun e w' => e = .returned (.bool true) ∧ Mod No w w' := by
  have HBY := Lib.hid hb
  have HT := Lib.hid hT
  have HBA : Hid (Byt (w.alloc (.cells #[] 5)) q bs cap) := hb.kept ((Mod.refl No w).alloc _)
  clear hb hT
  go_enter Tryd.func3, Tryd.ntmps3
  go_wp2_with (at_builtin; refine wpList_append_byt rfl _ _ rfl w.heap.size _ [] rfl (own_empty (heap_alloc_new w (.cells #[] 5)) (Nat.le_refl _)) q bs cap rfl HBA.out (by simp; omega) (by simp) ?_; intro v' w5 hown5 hgr5; obtain ⟨q5, c5, rfl⟩ := owns_slice hown5; have HG5 := Lib.hid hgr5; have HO5 := Lib.hid hown5; clear hown5 hgr5)
  obtain ⟨_, hby5, _⟩ := Byt.ofOwn (HO5.out : w5.ownsRow w.heap.size 5 1 (.slice q5 ([] ++ bs).length c5) ([] ++ bs).length (([] ++ bs).map (Value.int .u8))) (by rw [List.nil_append]; exact HBY.out.range) (by rw [List.nil_append]; exact HBY.out.len)
  rw [List.nil_append] at hby5
  have hm5 : Mod No w w5 := ((Mod.refl No w).alloc _).grown HG5.out (fun j ej hj => by cases ej; exact absurd hj (Nat.lt_irrefl _))
  refine (show_any q5 bs c5 w5 hby5 (Utf8Tabs_below HT.out hm5.no_below) hl).mono ?_
  rintro e w6 ⟨rfl, h6⟩
  rw [strOfNums_l]
  have hm6 : Mod No w w6 := hm5.trans (Mod.of_below h6)
  have HR := Lib.hid (refshow_any q bs cap w6 (HBY.out.kept hm6) hl)
  have HM6 := Lib.hid hm6
  clear hm5 hm6 h6 hby5
  go_wp2_with (first
    | (go_at_call 10; refine HR.out.mono ?_; rintro e w7 ⟨rfl, h7⟩; have HM7 := Lib.hid (HM6.out.trans h7); clear h7)
    | (go_at_call 11; refine (awake16_yes _ (Utf8Tabs_below HT.out HM7.out.no_below)).mono ?_; rintro e w8 ⟨rfl, h8⟩; have HM8 := Lib.hid (HM7.out.trans h8); clear h8))
  go_ret
  exact ⟨rfl, HM8.out⟩

end Go.Proofs.YtmdeljacbekbpaaDoor
