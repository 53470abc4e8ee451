/- tenementref01.Machine: Copy. -/
import Derived.Test.YthfkpbfapkpnfabRefNew
import Derived.Test.YthfkpbfapkpnfabRefRead
import Derived.Deep.DeepCutAuto
import Derived.Deep.CutRange
import Derived.Deep.CutBlock
import Derived.Deep.RegionLaw
import Derived.Test.YthfkpbfapkpnfabPhysCopy
namespace Go.Proofs.Ythfkpbfapkpnfab
open Go.RowKit
set_option maxRecDepth 100000

/-- What holds in the copying: all frames, so many rows. -/
structure RCp (w0 : World) (S : List Fr) (kB : Nat) (w : World) (vF vB : Value) (bl : List (Nat × Nat)) : Prop where
  mod : Mod No w0 w
  hd : w.heap[w0.heap.size]? = some (.cells #[vF, vB] 70 (0, 0))
  oF : w.ownsRow (w0.heap.size + 1) 30 4 vF S.length (headCells S)
  oB : w.ownsRow (w0.heap.size + 1) 33 1 vB kB (rowCells bl)
  len : bl.length = kB
  rows : ∀ (i : Nat) (f : Fr) (p : Nat × Nat), S[i]? = some f → bl[i]? = some p → 256 ≤ p.2 ∧ w0.heap.size + 1 ≤ p.1 ∧ ∃ r, w.heap[p.1]? = some (.cells (f.bytes.map (Value.int .u8) ++ r).toArray 5 (0, 0))
  nd : (bl.map Prod.fst).Nodup

theorem RCp.begun {w0 w2 : World} {S : List Fr} {v' : Value} (hg : (w0.alloc (.cells #[.slice none 0 0, .slice none 0 0] 70)).drew.grownBy w2 none)
    (hown : w2.ownsRow (w0.heap.size + 1) 30 4 v' (0 + S.length) ([] ++ headCells S)) :
    w2.heap[w0.heap.size]? = some (.cells #[.slice none 0 0, .slice none 0 0] 70 (0, 0)) ∧ RCp w0 S 0 (w2.setCell ⟨w0.heap.size, 0, none⟩ v') v' (.slice none 0 0) [] := by
  have hm2 : Mod No w0 w2 := ((Mod.refl No w0).alloc _).drew.grown hg (fun j ej _ => by cases ej)
  have hhd : w2.heap[w0.heap.size]? = some (.cells #[.slice none 0 0, .slice none 0 0] 70 (0, 0)) :=
    (hg.block w0.heap.size (by simp) (by simp)).trans (heap_alloc_new w0 _)
  rw [Nat.zero_add, List.nil_append] at hown
  refine ⟨hhd, ⟨Mod.setCell (p := ⟨w0.heap.size, 0, none⟩) hm2 (fun q => absurd q (Nat.lt_irrefl _)) _, ?_, ?_, World.ownsRow_nil _ _ _ _, rfl, by simp, by simp⟩⟩
  · simpa using row_set (l := [.slice none 0 0, .slice none 0 0]) hhd 0 v'
  · exact ownsRow_setCell_below hown (a := ⟨w0.heap.size, 0, none⟩) (by show w0.heap.size < _; omega) v'

theorem RCp.step {w0 w w5 w9 : World} {S : List Fr} {kB : Nat} {vF vB v' : Value} {bl : List (Nat × Nat)} (h : RCp w0 S kB w vF vB bl) {f : Fr} (hf : S[kB]? = some f) (hfo : f.bytes.length = 256) {g c : Nat}
    (hg5 : (w.alloc (.cells #[] 5)).drew.grownBy w5 (some w.heap.size)) (h5 : w5.ownsRow w.heap.size 5 1 (.slice (some ⟨g, 0, none⟩) 256 c) 256 (f.bytes.map (Value.int .u8)))
    (hg : (w5.alloc (.cells #[.slice (some ⟨g, 0, none⟩) 256 c] 33)).grownBy w9 vB.ownBlock) (hown : w9.ownsRow (w0.heap.size + 1) 33 1 v' (kB + 1) (rowCells bl ++ [.slice (some ⟨g, 0, none⟩) 256 c])) :
    w9.heap[w0.heap.size]? = some (.cells #[vF, vB] 70 (0, 0)) ∧ RCp w0 S (kB + 1) (w9.setCell ⟨w0.heap.size, 1, none⟩ v') vF v' (bl ++ [(g, c)]) := by
  have hm5 : Mod No w w5 := (((Mod.refl No w).alloc _).drew).grown hg5 (fun j ej hj => by cases ej; exact absurd hj (Nat.lt_irrefl _))
  have hm9 : Mod (fun b => some b = vB.ownBlock) w5 w9 := ((Mod.refl _ w5).alloc _).grown hg (fun j ej _ => ej.symm)
  have hsz := h.mod.size
  have hs5 := hm5.size
  have hlt := lt_of_blk h.hd
  have hd5 := hm5.blk h.hd (fun q => q)
  have oB5 : w5.ownsRow (w0.heap.size + 1) 33 1 vB kB (rowCells bl) := by
    refine ⟨h.oB.1, ?_⟩
    rcases h.oB.2 with q | ⟨g1, c1, cur1, q1, q2, q3, q4⟩
    · exact .inl q
    · exact .inr ⟨g1, c1, cur1, q1, q2, hm5.blk q3 (fun q => q), q4⟩
  have oF5 : w5.ownsRow (w0.heap.size + 1) 30 4 vF S.length (headCells S) := by
    refine ⟨h.oF.1, ?_⟩
    rcases h.oF.2 with q | ⟨g1, c1, cur1, q1, q2, q3, q4⟩
    · exact .inl q
    · exact .inr ⟨g1, c1, cur1, q1, q2, hm5.blk q3 (fun q => q), q4⟩
  have hhd9 := hm9.blk hd5 (blk_ne oB5 hd5 (by decide))
  obtain ⟨hgc, hgle, r5, hr5⟩ : w.heap.size ≤ g ∧ 256 ≤ c ∧ ∃ r, w5.heap[g]? = some (.cells (f.bytes.map (Value.int .u8) ++ r).toArray 5 (0, 0)) := by
    rcases h5.2 with ⟨q, _⟩ | ⟨g1, c1, cur1, q1, q2, q3, q4, _, q6, q7⟩
    · cases q
    · cases q1
      refine ⟨q2, q4, cur1.toList.drop (256 * 1), ?_⟩
      rw [q3, ← q7, List.take_append_drop]
  refine ⟨hhd9, ⟨?_, ?_, ?_, ?_, by simp [h.len], ?_, ?_⟩⟩
  · refine Mod.setCell (p := ⟨w0.heap.size, 1, none⟩) ((h.mod.trans hm5).step hm9 (fun i hi q => ?_)) (fun q => absurd q (Nat.lt_irrefl _)) _
    have := (oB5.lt i q.symm).1
    exact absurd hi (by omega)
  · simpa using row_set (l := [vF, vB]) hhd9 1 v'
  · have : w9.ownsRow (w0.heap.size + 1) 30 4 vF S.length (headCells S) := (oF5.alloc _).kept hg (own_ne oF5 oB5 (by decide))
    exact ownsRow_setCell_below this (a := ⟨w0.heap.size, 1, none⟩) (by show w0.heap.size < _; omega) v'
  · have e : rowCells (bl ++ [(g, c)]) = rowCells bl ++ [.slice (some ⟨g, 0, none⟩) 256 c] := by simp [rowCells]
    rw [e]
    exact ownsRow_setCell_below hown (a := ⟨w0.heap.size, 1, none⟩) (by show w0.heap.size < _; omega) v'
  · intro i f' p hf' hp
    by_cases hi : i < bl.length
    · rw [List.getElem?_append_left hi] at hp
      obtain ⟨a, b, r, hc⟩ := h.rows i f' p hf' hp
      refine ⟨a, b, r, ?_⟩
      rw [heap_setCell_other _ _ _ _ (show p.1 ≠ w0.heap.size by omega)]
      have hc5 := hm5.blk hc (fun q => q)
      exact hm9.blk hc5 (blk_ne oB5 hc5 (by decide))
    · rw [List.getElem?_append_right (by omega)] at hp
      have hik : i = kB := by
        have := (List.getElem?_eq_some_iff.1 hp).1
        simp only [List.length_singleton] at this
        have := h.len
        omega
      obtain rfl : p = (g, c) := by
        rw [hik, show kB - bl.length = 0 by rw [h.len]; omega] at hp
        simpa using hp.symm
      obtain rfl : f' = f := by rw [hik, hf] at hf'; exact (Option.some.inj hf').symm
      refine ⟨hgle, by simp only; omega, r5, ?_⟩
      rw [heap_setCell_other _ _ _ _ (show g ≠ w0.heap.size by omega)]
      exact hm9.blk hr5 (blk_ne oB5 hr5 (by decide))
  · rw [List.map_append, List.nodup_append]
    refine ⟨h.nd, by simp, ?_⟩
    intro a ha b hb
    simp at hb
    subst hb
    obtain ⟨p, hp, rfl⟩ := List.mem_map.1 ha
    obtain ⟨i, hi⟩ := List.getElem?_of_mem hp
    have hil := (List.getElem?_eq_some_iff.1 hi).1
    have hkl := (List.getElem?_eq_some_iff.1 hf).1
    have := h.len
    obtain ⟨_, _, r, hc⟩ := h.rows i _ p (List.getElem?_eq_getElem (show i < S.length by omega)) hi
    have := lt_of_blk hc
    omega

theorem RCp.done {w0 w : World} {S : List Fr} {vF vB : Value} {bl : List (Nat × Nat)} (h : RCp w0 S S.length w vF vB bl) (hok : okS S) (hlen : 1 ≤ S.length ∧ S.length ≤ 256) :
    ∃ K : RfK, K.R = w0.heap.size ∧ (∀ k, K.has k → w0.heap.size ≤ k) ∧ RfM w K S := by
  obtain ⟨gF, cF, rfl⟩ : ∃ g cap, vF = .slice (some ⟨g, 0, none⟩) S.length cap := by
    rcases h.oF.2 with ⟨_, q⟩ | ⟨g, cap, _, rfl, _⟩
    · omega
    · exact ⟨_, _, rfl⟩
  obtain ⟨gB, cB, rfl⟩ : ∃ g cap, vB = .slice (some ⟨g, 0, none⟩) S.length cap := by
    rcases h.oB.2 with ⟨_, q⟩ | ⟨g, cap, _, rfl, _⟩
    · omega
    · exact ⟨_, _, rfl⟩
  have lF := (h.oF.lt gF rfl).1
  have lB := (h.oB.lt gB rfl).1
  rcases h.oF.2 with ⟨q, _⟩ | ⟨g1, c1, cur1, q1, _, r1, l1, _, s1, t1⟩
  · cases q
  cases q1
  rcases h.oB.2 with ⟨q, _⟩ | ⟨g2, c2, cur2, q2, _, r2, l2, _, s2, t2⟩
  · cases q
  cases q2
  refine ⟨⟨w0.heap.size, gF, gB, bl⟩, rfl, ?_, hok, hlen, h.len, ⟨cF, cB, l1, l2, h.hd⟩, ⟨cur1.toList.drop (S.length * 4), ?_⟩, ⟨cur2.toList.drop (S.length * 1), ?_⟩, ?_, h.nd⟩
  · rintro k (rfl | rfl | rfl | q)
    · exact Nat.le_refl _
    · omega
    · omega
    · obtain ⟨p, hp, rfl⟩ := List.mem_map.1 q
      obtain ⟨i, hi⟩ := List.getElem?_of_mem hp
      have hil : i < bl.length := (List.getElem?_eq_some_iff.1 hi).1
      have := h.len
      have := (h.rows i _ p (List.getElem?_eq_getElem (show i < S.length by omega)) hi).2.1
      omega
  · rw [r1, ← t1, List.take_append_drop]
  · rw [r2, ← t2, List.take_append_drop]
  · intro i f p hf hp
    obtain ⟨a, _, r, c⟩ := h.rows i f p hf hp
    exact ⟨a, r, c⟩

theorem oneCell_head (S : List Fr) : ∀ v ∈ headCells S, v.oneCell' = true := by
  intro v hv
  simp only [headCells, List.mem_flatMap] at hv
  obtain ⟨f, _, hv⟩ := hv
  simp only [Fr.head, List.mem_cons, List.not_mem_nil, or_false] at hv
  rcases hv with rfl | rfl | rfl | rfl <;> rfl

theorem row_no {w w' : World} {n₀ : Nat} {e : TypeId} {size : Nat} {v : Value} {k : Nat} {xs : List Value} (h : w.ownsRow n₀ e size v k xs) (hm : Mod No w w') : w'.ownsRow n₀ e size v k xs := by
  refine ⟨h.1, ?_⟩
  rcases h.2 with h2 | ⟨g, cap, cur, hv, hg, hr, r⟩
  · exact .inl h2
  · exact .inr ⟨g, cap, cur, hv, hg, hm.blk hr (fun q => q), r⟩

set_option maxHeartbeats 3200000 in
theorem rcopy_in {K : RfK} {S : List Fr} (w : World) (h : RfM w K S) :
    Calls Try.prog 38 #[.pointer (some ⟨K.R, 0, none⟩)] w fun e w' => ∃ L : RfK, e = .returned (.pointer (some ⟨L.R, 0, none⟩)) ∧ (∀ k, L.has k → w.heap.size ≤ k) ∧ Mod No w w' ∧ RfM w' L S := by
  obtain ⟨i0, hi, hz0, hz1, hz2⟩ := info_parts Try.infoApiFrame
  obtain ⟨j0, hj, hy0, hy1, hy2⟩ := info_parts Try.infoBytes
  obtain ⟨u0, hu, hu0, hu1, hu2⟩ := infoU8P
  obtain ⟨cF, hcF, hF0⟩ := h.cF
  have hlen := h.len
  have hlR := h.lt K.R (.inl rfl)
  have hsrc : ∀ w1, Mod No w w1 → ∀ j u, (headCells S)[j]? = some u → w1.cell? ((⟨K.G, 0, none⟩ : Addr).add j) = some u := by
    intro w1 hm j u hj
    obtain ⟨r, hr⟩ := (h.keptNo hm).frow
    have hjl := (List.getElem?_eq_some_iff.1 hj).1
    rw [Addr.add_lit, Nat.zero_add, row_cell hr, List.getElem?_append_left hjl, hj]
  have HS := Lib.hid hsrc
  have HH := Lib.hid h
  have hF1 : (w.alloc (.cells #[.slice none 0 0, .slice none 0 0] 70)).cell? ⟨K.R, 0, none⟩ = some (.slice (some ⟨K.G, 0, none⟩) S.length cF) :=
    (World.cell?_of_block (w := w) (((Mod.refl No w).alloc _).block K.R hlR (fun q => q))).trans hF0
  clear hsrc h
  go_enter Try.func38, Try.ntmps38
  go_upto_region 2 with fail
  go_cut [18] (fun _ wx => ∃ vF, RCp w S 0 wx vF (.slice none 0 0) [])
  case first =>
    go_region_law (refine step_append_own rfl (.tmp 11) (.tmp 15) 67 rfl (w.heap.size + 1) 30 i0 (.agg #[.int .i64 0, .int .i64 0, .int .i64 0, .int .i64 0]) 4 32 Try.underlying67 hi hz0 hz1 hz2 rfl (by decide) (.slice none 0 0) 0 [] (by simp [Act.eval]) (World.ownsRow_nil _ _ _ _) ⟨K.G, 0, none⟩ S.length cF (headCells S) (by simp [Act.eval]) (headCells_len S) (HS.out _ ((Mod.refl No w).alloc _).drew) (oneCell_head S) (by unfold maxLen; omega) (by omega) (by simp) ?_; intro v' w2 hown2 hgrow2; obtain ⟨g2, cap2, rfl⟩ := owns_slice hown2; obtain ⟨hhd2, hR2⟩ := RCp.begun hgrow2 hown2; have hx1 := row_cell (l := [.slice none 0 0, .slice none 0 0]) hhd2 0; simp only [List.getElem?_cons_zero] at hx1; have hgx := row_free (l := [.slice none 0 0, .slice none 0 0]) hhd2 0; have HR2 := Lib.hid hR2; clear hR2)
    all_goals (go_wp2_with fail; go_meet)
    all_goals (have hz := HR2.out; rw [Nat.zero_add] at hz; exact ⟨_, hz⟩)
  case rest =>
  obtain ⟨vF0, hR0⟩ := hcut
  have HR2 := Lib.hid hR0
  clear hR0
  go_wp2_with fail
  go_loopw [4] (fun v wr => ∃ k : Nat, k ≤ S.length ∧ v = .int .i64 k ∧ ∃ vF vB bl, RCp w S k wr vF vB bl) (fun v _ => S.length - (intOf v).toNat)
  case atStart => exact ⟨0, Nat.zero_le _, rfl, _, _, _, HR2.out⟩
  case round =>
    obtain ⟨k, hk, rfl, vF, vB, bl, hR⟩ := hrel
    have hRm := HH.out.keptNo hR.mod
    obtain ⟨cB, hcB, hB0⟩ := hRm.cB
    by_cases hlt : k < S.length
    · obtain ⟨f, hf⟩ : ∃ f, S[k]? = some f := ⟨_, List.getElem?_eq_getElem hlt⟩
      obtain ⟨rb, rc, hrc, hbl, hcR, hcx, _⟩ := hRm.cR hf
      have hfo := (hRm.ok f (List.mem_of_getElem? hf)).1
      have hrb := hRm.lt rb (RfK.row_mem hbl)
      have hRR := hRm.lt K.R (.inl rfl)
      have hHH := hRm.lt K.H (.inr (.inr (.inl rfl)))
      have hhd := hR.hd
      have hoB := hR.oB
      obtain ⟨qB, cB2, rfl⟩ := owns_slice hoB
      have hsz := hR.mod.size
      have hltw := lt_of_blk hhd
      have hc1 := row_cell (l := [vF, .slice qB k cB2]) hhd 1
      simp only [List.getElem?_cons_zero, List.getElem?_cons_succ] at hc1
      have hsrc : ∀ j u, (f.bytes.map (Value.int .u8))[j]? = some u → (wr.alloc (.cells #[] 5)).drew.cell? ((⟨rb, 0, none⟩ : Addr).add j) = some u := by
        intro j u hj
        rw [List.getElem?_map] at hj
        obtain ⟨x, hx, rfl⟩ := Option.map_eq_some_iff.1 hj
        rw [Addr.add_lit, Nat.zero_add]
        exact (World.cell?_of_block (w := wr) (((Mod.refl No wr).alloc (.cells #[] 5)).drew.block rb hrb (fun q => q))).trans (hcx j x hx)
      have hB0' : (wr.alloc (.cells #[] 5)).cell? ⟨K.R, 1, none⟩ = some (.slice (some ⟨K.H, 0, none⟩) S.length cB) := (World.cell?_of_block (w := wr) (((Mod.refl No wr).alloc _).block K.R hRR (fun q => q))).trans hB0
      have hcR' : (wr.alloc (.cells #[] 5)).cell? ⟨K.H, k, none⟩ = some (.slice (some ⟨rb, 0, none⟩) 256 rc) := (World.cell?_of_block (w := wr) (((Mod.refl No wr).alloc _).block K.H hHH (fun q => q))).trans hcR
      have hc1' : (wr.alloc (.cells #[] 5)).cell? ⟨w.heap.size, 1, none⟩ = some (.slice qB k cB2) := (World.cell?_of_block (w := wr) (((Mod.refl No wr).alloc _).block w.heap.size hltw (fun q => q))).trans hc1
      have b3 : (0 : Int) ≤ k := by omega
      have b4 : (k : Int) < S.length := by omega
      have HR := Lib.hid hR
      have HX := Lib.hid hsrc
      have HF := Lib.hid hf
      have HFO := Lib.hid hfo
      have HO := Lib.hid hoB
      clear hR hsrc hf hfo hoB hcx hRm hbl hhd
      go_upto_block 1 with fail
      go_cut [45] from 28 to 45 (fun _ wx => ∃ vF vB bl, RCp w S (k + 1) wx vF vB bl)
      case first =>
        go_wp2_with fail
        go_region_law (first | (refine step_append_own rfl (.tmp 33) (.tmp 40) 33 rfl wr.heap.size 5 u0 (.int .u8 0) 1 1 Try.underlying33 hu hu0 hu1 hu2 rfl (by decide) (.slice (some ⟨wr.heap.size, 0, none⟩) 0 0) 0 [] (by simp [Act.eval]) (own_empty (heap_alloc_new wr (.cells #[] 5)) (Nat.le_refl _)) ⟨rb, 0, none⟩ 256 rc (f.bytes.map (Value.int .u8)) (by simp [Act.eval]) (by rw [List.length_map, HFO.out]) HX.out (oneCell_u8 _) (by unfold maxLen; omega) (by omega) (by simp) ?_; intro v5 w5 hown5 hgrow5; obtain ⟨g5, cap5, rfl⟩ := own_pos hown5 (by omega); rw [Nat.zero_add, List.nil_append] at hown5; have hm5 : Mod No wr w5 := (((Mod.refl No wr).alloc _).drew).grown hgrow5 (fun j ej hj => by cases ej; exact absurd hj (Nat.lt_irrefl _)); have hs5 := hm5.size; have hc5 := (World.cell?_of_block (w := wr) (hm5.block w.heap.size hltw (fun q => q))).trans hc1; have hc6 : (w5.alloc (.cells #[.slice (some ⟨g5, 0, none⟩) 256 cap5] 33)).cell? ⟨w.heap.size, 1, none⟩ = some (.slice qB k cB2) := (World.cell?_of_block (w := w5) (((Mod.refl No w5).alloc _).block w.heap.size (by omega) (fun q => q))).trans hc5; have HO5 := Lib.hid (row_no HO.out hm5); have HW5 := Lib.hid hown5; have HG5 := Lib.hid hgrow5; clear hown5 hgrow5 hm5) | (refine step_append_own rfl (.tmp 32) (.tmp 42) 68 rfl (w.heap.size + 1) 33 j0 (.slice none 0 0) 1 24 Try.underlying68 hj hy0 hy1 hy2 rfl (by decide) (.slice qB k cB2) k (rowCells bl) (by simp [Act.eval]) (HO5.out.alloc _) ⟨w5.heap.size, 0, none⟩ 1 1 [.slice (some ⟨g5, 0, none⟩) 256 cap5] (by simp [Act.eval]) rfl (fun j u hj => by rw [Addr.add_lit, Nat.zero_add]; exact (row_cell (heap_alloc_new w5 (.cells #[.slice (some ⟨g5, 0, none⟩) 256 cap5] 33)) j).trans hj) (by simp [Value.oneCell']) (by unfold maxLen; omega) (by omega) (by simp; omega) ?_; intro v9 w9 hown9 hgrow9; obtain ⟨hhd9, hR9⟩ := RCp.step HR.out HF.out HFO.out HG5.out HW5.out hgrow9 hown9; obtain ⟨g9, cap9, rfl⟩ := owns_slice hown9; have hx9 := row_cell (l := [vF, .slice qB k cB2]) hhd9 1; simp only [List.getElem?_cons_zero, List.getElem?_cons_succ] at hx9; have hgx := row_free (l := [vF, .slice qB k cB2]) hhd9 1; have HR9 := Lib.hid hR9; clear hR9))
        all_goals (go_wp2_with fail; go_meet; exact ⟨_, _, _, HR9.out⟩)
      case rest =>
        obtain ⟨vF1, vB1, bl1, hR1⟩ := hcut
        have HR1 := Lib.hid hR1
        clear hR1
        go_wp2
        go_roundw
        case rel => exact ⟨k + 1, by omega, by go_num, _, _, _, HR1.out⟩
        case measure => simp [intOf]; omega
    · obtain rfl : k = S.length := by omega
      obtain ⟨L, hLR, hL, hM⟩ := hR.done hRm.ok hRm.len
      have hmod := hR.mod
      clear hR hRm
      go_wp2
      go_ret
      exact ⟨L, by rw [hLR]; rfl, hL, hmod, hM⟩

end Go.Proofs.Ythfkpbfapkpnfab
