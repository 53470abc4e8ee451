/- core.Asm and the document's: instructions as bytes. -/
import Derived.Test.YtapnodlmfapjlaaDoorCoreText
import Derived.Laws.BytesArg
namespace Go.Proofs.YtapnodlmfapjlaaDoor
open Go.RowKit
set_option maxRecDepth 100000

theorem infoU8A : (Tryd.prog.info? 5).map (fun i => (i.zero, i.size, i.bytes)) = some (some (.int .u8 0), 1, 1) := by kernel_rfl
theorem own_base {w : World} {base : Nat} {e : TypeId} {size : Nat} {v : Value} {n : Nat} {xs : List Value} (h : w.ownsRow base e size v n xs) {j : Nat} (hj : v.ownBlock = some j) : base ≤ j := by
  rcases h.2 with ⟨rfl, _⟩ | ⟨g, cap, cur, rfl, hg, _⟩
  · simp [Value.ownBlock] at hj
  · simp [Value.ownBlock] at hj
    omega
def AllB (l : List Int) : Prop := ∀ x ∈ l, 0 ≤ x ∧ x ≤ 255
/-- What both answer. -/
def AsmP (a b c d : Int) (w : World) (e : Ending) (w' : World) : Prop :=
  Mod No w w' ∧ ((¬ AllB [a, b, c, d] ∧ e = .returned (.tuple #[.slice none 0 0, .int .i64 1])) ∨ (AllB [a, b, c, d] ∧ ∃ q c2 g, e = .returned (.tuple #[.slice q 4 c2, .int .i64 0]) ∧ w'.ownsRow g 5 1 (.slice q 4 c2) 4 (([a, b, c, d] : List Int).map (Value.int .u8))))

set_option maxHeartbeats 8000000 in
theorem asm_any (a b c d : Int) (w : World) : Calls Tryd.prog 8 #[.int .i64 a, .int .i64 b, .int .i64 c, .int .i64 d] w (AsmP a b c d w) := by
  obtain ⟨u0, hu, hu0, hu1, hu2⟩ := info_parts infoU8A
  have hro : (w.alloc (.cells #[.int .i64 a, .int .i64 b, .int .i64 c, .int .i64 d] 3)).heap[w.heap.size]? = some (.cells (([a, b, c, d] : List Int).map (Value.int .i64)).toArray 3 (0, 0)) := heap_alloc_new w _
  have HRO := Lib.hid hro
  clear hro
  have hsz0 : w.heap.size + 1 ≤ (w.alloc (.cells #[.int .i64 a, .int .i64 b, .int .i64 c, .int .i64 d] 3)).heap.size := by simp
  have HSZ0 := Lib.hid hsz0
  clear hsz0
  go_enter Tryd.func8, Tryd.ntmps8
  go_wp2_with fail
  have hwb : w.heap.size ≤ w.heap.size := Nat.le_refl _
  have HWB := Lib.hid hwb
  clear hwb
  obtain ⟨bI, hbI⟩ : ∃ b, b = w.heap.size := ⟨_, rfl⟩
  rw [← hbI] at HRO HSZ0 ⊢
  have HBI := Lib.hid hbI
  clear hbI HWB
  go_loopw [10, 19] (fun vo vi wx => ∃ i : Nat, vi = .int .i64 i ∧ i ≤ 4 ∧ wx.ownsRow (bI + 1) 5 1 vo i ((([a, b, c, d] : List Int).take i).map (Value.int .u8)) ∧ AllB (([a, b, c, d] : List Int).take i) ∧ Mod No w wx ∧ wx.heap[bI]? = some (.cells (([a, b, c, d] : List Int).map (Value.int .i64)).toArray 3 (0, 0)) ∧ bI + 1 ≤ wx.heap.size) (fun _ vi _ => 4 - (intOf vi).toNat)
  case atStart => exact ⟨0, rfl, by omega, World.ownsRow_nil _ _ _ _, (fun x hx => by simp at hx), (Mod.refl No w).alloc _, HRO.out, HSZ0.out⟩
  case round =>
    obtain ⟨i, rfl, hi, hown, hall, hm, hrow, hsz⟩ := hrel
    by_cases hlt : i < 4
    · obtain ⟨x, hx⟩ : ∃ x, ([a, b, c, d] : List Int)[i]? = some x := ⟨_, List.getElem?_eq_getElem hlt⟩
      have hc : wr.cell? ⟨bI, i, none⟩ = some (.int .i64 x) := by rw [row_cell hrow i, List.getElem?_map, hx]; rfl
      have hlt2 : (i : Int) < 4 := by omega
      have hi0 : (0 : Int) ≤ i := by omega
      have hw1 : IntKind.i64.wrap ((i : Int) + 1) = (i : Int) + 1 := IntWalk.i64_in _ (by omega)
      have htk : ([a, b, c, d] : List Int).take (i + 1) = ([a, b, c, d] : List Int).take i ++ [x] := by rw [List.take_add_one, hx]; rfl
      have hmem := List.mem_of_getElem? hx
      have HOWN := Lib.hid hown
      have HALL := Lib.hid hall
      have HM := Lib.hid hm
      have HROW := Lib.hid hrow
      have HTK := Lib.hid htk
      have HMEM := Lib.hid hmem
      have HSZ := Lib.hid hsz
      clear hown hall hm hrow htk hmem hx hsz
      by_cases hin : 0 ≤ x ∧ x ≤ 255
      · obtain ⟨x0, x1⟩ := hin
        have n1 : ¬ x < 0 := by omega
        have n2 : ¬ 255 < x := by omega
        have n3 : IntKind.u8.wrap x = x := IntWalk.u8_in _ (by omega)
        have n4 : x % 256 = x := by omega
        go_wp2_with (at_builtin; refine wpList_append_own _ rfl (.tmp 29) (.tmp 32) 22 rfl (bI + 1) 5 u0 (.int .u8 0) 1 1 Tryd.underlying22 hu hu0 hu1 hu2 rfl (by decide) _ i _ rfl (own_kept HOWN.out ((Mod.refl No _).alloc _) (fun _ _ q => q)) ⟨_, 0, none⟩ 1 1 [.int .u8 x] rfl (by simp) (fun j u hj => by rw [Addr.add_lit, Nat.zero_add]; exact (row_cell (heap_alloc_new _ (.cells #[.int .u8 x] 5)) j).trans hj) (by simp [Value.oneCell']) (by unfold maxLen; omega) (by omega) (by have := HSZ.out; simp; omega) ?_; intro v6 w6 hown6 hgr6 _; have HO6 := Lib.hid hown6; have HG6 := Lib.hid hgr6; clear hown6 hgr6)
        have hnb := fun k ek => own_base HOWN.out (j := k) ek
        have hrow6 : w6.heap[bI]? = some (.cells (([a, b, c, d] : List Int).map (Value.int .i64)).toArray 3 (0, 0)) := by
          have h1 := blk_alloc HROW.out (.cells #[.int .u8 x] 5)
          exact (HG6.out.block bI (lt_of_blk h1) (fun e => by have := hnb bI e.symm; omega)).trans h1
        refine ⟨⟨i + 1, by go_num, by omega, ?_, ?_, (HM.out.alloc _).grown HG6.out (fun k ek hk => by have := hnb k ek; have := HBI.out; omega), hrow6, by have h1 := HG6.out.size; have h2 := HSZ.out; simp at h1; omega⟩, by simp [intOf]; omega⟩
        · rw [HTK.out, List.map_append]; exact HO6.out
        · rw [HTK.out]
          intro y hy
          rcases List.mem_append.1 hy with h | h
          · exact HALL.out y h
          · rw [List.mem_singleton.1 h]; exact ⟨x0, x1⟩
      · have hno : ¬ AllB [a, b, c, d] := fun h => hin (h x HMEM.out)
        have HNO := Lib.hid hno
        clear hno
        by_cases x0 : x < 0
        · go_wp2_with fail
          go_ret2
          exact ⟨HM.out, .inl ⟨HNO.out, rfl⟩⟩
        · have x1 : 255 < x := by omega
          go_wp2_with fail
          go_ret2
          exact ⟨HM.out, .inl ⟨HNO.out, rfl⟩⟩
    · obtain rfl : i = 4 := by omega
      have HOWN := Lib.hid hown
      have HALL := Lib.hid hall
      have HM := Lib.hid hm
      clear hown hall hm hrow hsz
      go_wp2_with fail
      go_ret2
      refine ⟨HM.out, .inr ⟨HALL.out, ?_⟩⟩
      have ho := HOWN.out
      rcases ho.2 with ⟨_, e⟩ | ⟨g, cap, cur, rfl, hg, r⟩
      · omega
      · exact ⟨_, _, bI + 1, rfl, ho⟩

set_option maxHeartbeats 8000000 in
theorem rasm_any (a b c d : Int) (w : World) : Calls Tryd.prog 9 #[.int .i64 a, .int .i64 b, .int .i64 c, .int .i64 d] w (AsmP a b c d w) := by
  obtain ⟨u0, hu, hu0, hu1, hu2⟩ := info_parts infoU8A
  have hro : (w.alloc (.cells #[.int .i64 a, .int .i64 b, .int .i64 c, .int .i64 d] 3)).heap[w.heap.size]? = some (.cells (([a, b, c, d] : List Int).map (Value.int .i64)).toArray 3 (0, 0)) := heap_alloc_new w _
  have HRO := Lib.hid hro
  clear hro
  have hsz0 : w.heap.size + 1 ≤ (w.alloc (.cells #[.int .i64 a, .int .i64 b, .int .i64 c, .int .i64 d] 3)).heap.size := by simp
  have HSZ0 := Lib.hid hsz0
  clear hsz0
  go_enter Tryd.func9, Tryd.ntmps9
  go_wp2_with fail
  have hwb : w.heap.size ≤ w.heap.size := Nat.le_refl _
  have HWB := Lib.hid hwb
  clear hwb
  obtain ⟨bI, hbI⟩ : ∃ b, b = w.heap.size := ⟨_, rfl⟩
  rw [← hbI] at HRO HSZ0 ⊢
  have HBI := Lib.hid hbI
  clear hbI HWB
  go_loopw [11, 12] (fun vo vi wx => ∃ i : Nat, vi = .int .i64 i ∧ i ≤ 4 ∧ wx.ownsRow (bI + 1) 5 1 vo i ((([a, b, c, d] : List Int).take i).map (Value.int .u8)) ∧ AllB (([a, b, c, d] : List Int).take i) ∧ Mod No w wx ∧ wx.heap[bI]? = some (.cells (([a, b, c, d] : List Int).map (Value.int .i64)).toArray 3 (0, 0)) ∧ bI + 1 ≤ wx.heap.size) (fun _ vi _ => 4 - (intOf vi).toNat)
  case atStart => exact ⟨0, rfl, by omega, World.ownsRow_nil _ _ _ _, (fun x hx => by simp at hx), (Mod.refl No w).alloc _, HRO.out, HSZ0.out⟩
  case round =>
    obtain ⟨i, rfl, hi, hown, hall, hm, hrow, hsz⟩ := hrel
    by_cases hlt : i < 4
    · obtain ⟨x, hx⟩ : ∃ x, ([a, b, c, d] : List Int)[i]? = some x := ⟨_, List.getElem?_eq_getElem hlt⟩
      have hc : wr.cell? ⟨bI, i, none⟩ = some (.int .i64 x) := by rw [row_cell hrow i, List.getElem?_map, hx]; rfl
      have hlt2 : (i : Int) < 4 := by omega
      have hi0 : (0 : Int) ≤ i := by omega
      have hw1 : IntKind.i64.wrap ((i : Int) + 1) = (i : Int) + 1 := IntWalk.i64_in _ (by omega)
      have htk : ([a, b, c, d] : List Int).take (i + 1) = ([a, b, c, d] : List Int).take i ++ [x] := by rw [List.take_add_one, hx]; rfl
      have hmem := List.mem_of_getElem? hx
      have HOWN := Lib.hid hown
      have HALL := Lib.hid hall
      have HM := Lib.hid hm
      have HROW := Lib.hid hrow
      have HTK := Lib.hid htk
      have HMEM := Lib.hid hmem
      have HSZ := Lib.hid hsz
      clear hown hall hm hrow htk hmem hx hsz
      by_cases hin : 0 ≤ x ∧ x ≤ 255
      · obtain ⟨x0, x1⟩ := hin
        have n1 : ¬ x < 0 := by omega
        have n2 : ¬ 255 < x := by omega
        have n3 : IntKind.u8.wrap x = x := IntWalk.u8_in _ (by omega)
        have n4 : x % 256 = x := by omega
        go_wp2_with (at_builtin; refine wpList_append_own _ rfl (.tmp 36) (.tmp 42) 22 rfl (bI + 1) 5 u0 (.int .u8 0) 1 1 Tryd.underlying22 hu hu0 hu1 hu2 rfl (by decide) _ i _ rfl (own_kept HOWN.out ((Mod.refl No _).alloc _) (fun _ _ q => q)) ⟨_, 0, none⟩ 1 1 [.int .u8 x] rfl (by simp) (fun j u hj => by rw [Addr.add_lit, Nat.zero_add]; exact (row_cell (heap_alloc_new _ (.cells #[.int .u8 x] 5)) j).trans hj) (by simp [Value.oneCell']) (by unfold maxLen; omega) (by omega) (by have := HSZ.out; simp; omega) ?_; intro v6 w6 hown6 hgr6 _; have HO6 := Lib.hid hown6; have HG6 := Lib.hid hgr6; clear hown6 hgr6)
        have hnb := fun k ek => own_base HOWN.out (j := k) ek
        have hrow6 : w6.heap[bI]? = some (.cells (([a, b, c, d] : List Int).map (Value.int .i64)).toArray 3 (0, 0)) := by
          have h1 := blk_alloc HROW.out (.cells #[.int .u8 x] 5)
          exact (HG6.out.block bI (lt_of_blk h1) (fun e => by have := hnb bI e.symm; omega)).trans h1
        refine ⟨⟨i + 1, by go_num, by omega, ?_, ?_, (HM.out.alloc _).grown HG6.out (fun k ek hk => by have := hnb k ek; have := HBI.out; omega), hrow6, by have h1 := HG6.out.size; have h2 := HSZ.out; simp at h1; omega⟩, by simp [intOf]; omega⟩
        · rw [HTK.out, List.map_append]; exact HO6.out
        · rw [HTK.out]
          intro y hy
          rcases List.mem_append.1 hy with h | h
          · exact HALL.out y h
          · rw [List.mem_singleton.1 h]; exact ⟨x0, x1⟩
      · have hno : ¬ AllB [a, b, c, d] := fun h => hin (h x HMEM.out)
        have HNO := Lib.hid hno
        clear hno
        by_cases x0 : x < 0
        · go_wp2_with fail
          go_ret2
          exact ⟨HM.out, .inl ⟨HNO.out, rfl⟩⟩
        · have x1 : 255 < x := by omega
          go_wp2_with fail
          go_ret2
          exact ⟨HM.out, .inl ⟨HNO.out, rfl⟩⟩
    · obtain rfl : i = 4 := by omega
      have HOWN := Lib.hid hown
      have HALL := Lib.hid hall
      have HM := Lib.hid hm
      clear hown hall hm hrow hsz
      go_wp2_with fail
      go_ret2
      refine ⟨HM.out, .inr ⟨HALL.out, ?_⟩⟩
      have ho := HOWN.out
      rcases ho.2 with ⟨_, e⟩ | ⟨g, cap, cur, rfl, hg, r⟩
      · omega
      · exact ⟨_, _, bI + 1, rfl, ho⟩

end Go.Proofs.YtapnodlmfapjlaaDoor
