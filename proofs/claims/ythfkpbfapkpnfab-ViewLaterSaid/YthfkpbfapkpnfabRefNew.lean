/- tenementref01: New. -/
import Derived.Test.YthfkpbfapkpnfabRefFree
import Derived.Test.YthfkpbfapkpnfabPhysOwned
import Derived.OwnWalk
import Derived.Deep.RegionLaw
namespace Go.Proofs.Ythfkpbfapkpnfab
open Go.RowKit
set_option maxRecDepth 100000

/-- append onto an own row, as a step of a region that draws its order. -/
theorem step_append_own {P : Program} {ops : Array Oper} {o : Oper} {a : Act} {w : World} {K : Act → World → Prop} {Q : Exit → Act → World → Prop} {E : Prop}
    (hg : o.guard = none) (s x : Operand) (t : TypeId) (hop : o.op = Op.call { callee := Callee.builtin Builtin.append, args := #[s, x], argTypes := #[t, t] })
    (base : Nat) (e : TypeId) (i : TypeInfo) (z : Value) (size bytes : Nat) (h1 : P.underlying t = some (.slice e)) (h2 : P.info? e = some i) (h3 : i.zero = some z) (h4 : i.size = size) (h5 : i.bytes = bytes) (h6 : z.cells.size = size) (h7 : 0 < size)
    (v : Value) (n : Nat) (xs : List Value) (hs : a.eval s = v) (hown : w.ownsRow base e size v n xs)
    (ad : Addr) (m c : Nat) (news : List Value) (hx : a.eval x = .slice (some ad) m c) (hn : news.length = m * size) (hc : ∀ j u, news[j]? = some u → w.cell? (ad.add j) = some u) (h1c : ∀ u ∈ news, u.oneCell' = true)
    (b1 : n + m ≤ maxLen) (b2 : (n + m) * bytes ≤ 140737488355328) (hbase : base ≤ w.heap.size)
    (hK : ∀ v' w', w'.ownsRow base e size v' (n + m) (xs ++ news) → w.grownBy w' v.ownBlock → K (a.put o.dst v') w') :
    if Region.wanted o (yielded ops a.tmps) = true then Oper.wp P o a w K Q else E := by
  have hw : Region.wanted o (yielded ops a.tmps) = true := by simp [Region.wanted, hg]
  rw [if_pos hw]
  obtain ⟨v', w', hrun, r1, r2, _⟩ := run_append_own (P := P) w base t o.type e i z size bytes h1 h2 h3 h4 h5 h6 h7 v n xs hown ad m c news hn hc h1c b1 b2 hbase
  unfold Oper.wp
  simp [execOp, hop, resolve, invoke, builtin, hs, hx, hrun, Result.andThen]
  exact hK v' w' r1 r2

theorem rnew_out (n : Int) (w : World) (h : n < 1 ∨ 256 < n) :
    Calls Try.prog 29 #[.int .i64 n] w fun e w' => e = .returned (.tuple #[.pointer none, .int .i64 1]) ∧ w = w' := by
  by_cases c : n < 1
  · have d1 : decide (n < 1) = true := decide_eq_true c
    go_enter Try.func29, Try.ntmps29
    go_wp2
    go_ret2
    exact ⟨rfl, rfl⟩
  · have d1 : decide (n < 1) = false := decide_eq_false c
    have d2 : decide (256 < n) = true := decide_eq_true (by omega)
    go_enter Try.func29, Try.ntmps29
    go_wp2
    go_ret2
    exact ⟨rfl, rfl⟩

theorem own_ne {w : World} {b1 b2 : Nat} {e1 e2 : TypeId} {s1 s2 k1 k2 : Nat} {v1 v2 : Value} {x1 x2 : List Value} (h1 : w.ownsRow b1 e1 s1 v1 k1 x1) (h2 : w.ownsRow b2 e2 s2 v2 k2 x2) (hne : e1 ≠ e2) : v1.ownBlock = none ∨ v1.ownBlock ≠ v2.ownBlock := by
  rcases h1.2 with ⟨rfl, _⟩ | ⟨g, cap, cur, rfl, _, hr, _⟩
  · exact .inl rfl
  · right
    rcases h2.2 with ⟨rfl, _⟩ | ⟨g2, cap2, cur2, rfl, _, hr2, _⟩
    · simp [Value.ownBlock]
    · intro e
      have e : some g = some g2 := e
      obtain rfl := Option.some.inj e
      rw [hr] at hr2
      simp at hr2
      exact hne hr2.2

theorem blk_ne {w : World} {b1 : Nat} {e1 e2 : TypeId} {s1 k1 : Nat} {v1 : Value} {x1 : List Value} (h1 : w.ownsRow b1 e1 s1 v1 k1 x1) {g : Nat} {cs : Array Value} {fz : Nat × Nat} (hg : w.heap[g]? = some (.cells cs e2 fz)) (hne : e1 ≠ e2) : some g ≠ v1.ownBlock := by
  rcases h1.2 with ⟨rfl, _⟩ | ⟨g1, cap, cur, rfl, _, hr, _⟩
  · simp [Value.ownBlock]
  · intro e
    have e : some g = some g1 := e
    obtain rfl := Option.some.inj e
    rw [hr] at hg
    simp at hg
    exact hne hg.2.1

/-- What holds in the making: so many frames, so many rows. -/
structure RNew (w0 : World) (kF kB : Nat) (w : World) (vF vB : Value) (bl : List (Nat × Nat)) : Prop where
  mod : Mod No w0 w
  hd : w.heap[w0.heap.size]? = some (.cells #[vF, vB] 70 (0, 0))
  oF : w.ownsRow (w0.heap.size + 1) 30 4 vF kF (headCells (List.replicate kF freeFr))
  oB : w.ownsRow (w0.heap.size + 1) 33 1 vB kB (rowCells bl)
  len : bl.length = kB
  rows : ∀ (i : Nat) (p : Nat × Nat), bl[i]? = some p → 256 ≤ p.2 ∧ w0.heap.size + 1 ≤ p.1 ∧ w.heap[p.1]? = some (.cells zeroRow 5 (0, 0))
  nd : (bl.map Prod.fst).Nodup

theorem headCells_rep (k : Nat) : headCells (List.replicate (k + 1) freeFr) = headCells (List.replicate k freeFr) ++ freeFr.head := by
  rw [List.replicate_succ']; simp [headCells]

theorem RNew.stepF {w0 w w7 : World} {kF kB : Nat} {vF vB v' : Value} {bl : List (Nat × Nat)} (h : RNew w0 kF kB w vF vB bl) {o : Obj} (hg : (w.alloc o).grownBy w7 vF.ownBlock)
    (hown : w7.ownsRow (w0.heap.size + 1) 30 4 v' (kF + 1) (headCells (List.replicate kF freeFr) ++ freeFr.head)) :
    w7.heap[w0.heap.size]? = some (.cells #[vF, vB] 70 (0, 0)) ∧ RNew w0 (kF + 1) kB (w7.setCell ⟨w0.heap.size, 0, none⟩ v') v' vB bl := by
  have hm7 : Mod (fun b => some b = vF.ownBlock) w w7 := ((Mod.refl _ w).alloc o).grown hg (fun j ej _ => ej.symm)
  have hhd7 := hm7.blk h.hd (blk_ne h.oF h.hd (by decide))
  refine ⟨hhd7, ⟨?_, ?_, ?_, ?_, h.len, ?_, h.nd⟩⟩
  · refine Mod.setCell (p := ⟨w0.heap.size, 0, none⟩) (h.mod.step hm7 (fun i hi q => ?_)) (fun q => absurd q (Nat.lt_irrefl _)) _
    have := (h.oF.lt i q.symm).1
    exact absurd hi (by omega)
  · simpa using row_set (l := [vF, vB]) hhd7 0 v'
  · rw [headCells_rep]
    exact ownsRow_setCell_below hown (a := ⟨w0.heap.size, 0, none⟩) (by show w0.heap.size < _; omega) v'
  · have : w7.ownsRow (w0.heap.size + 1) 33 1 vB kB (rowCells bl) := (h.oB.alloc o).kept hg (own_ne h.oB h.oF (by decide))
    exact ownsRow_setCell_below this (a := ⟨w0.heap.size, 0, none⟩) (by show w0.heap.size < _; omega) v'
  · intro i p hp
    obtain ⟨a, b, c⟩ := h.rows i p hp
    refine ⟨a, b, ?_⟩
    rw [heap_setCell_other _ _ _ _ (show p.1 ≠ w0.heap.size by omega)]
    exact hm7.blk c (blk_ne h.oF c (by decide))

theorem RNew.stepB {w0 w w9 : World} {kF kB : Nat} {vF vB v' : Value} {bl : List (Nat × Nat)} (h : RNew w0 kF kB w vF vB bl) {o : Obj} {c : Nat} (hc : 256 ≤ c) (hg : ((w.alloc (.cells zeroRow 5)).alloc o).drew.grownBy w9 vB.ownBlock)
    (hown : w9.ownsRow (w0.heap.size + 1) 33 1 v' (kB + 1) (rowCells bl ++ [.slice (some ⟨w.heap.size, 0, none⟩) 256 c])) :
    w9.heap[w0.heap.size]? = some (.cells #[vF, vB] 70 (0, 0)) ∧ RNew w0 kF (kB + 1) (w9.setCell ⟨w0.heap.size, 1, none⟩ v') vF v' (bl ++ [(w.heap.size, c)]) := by
  have hm9 : Mod (fun b => some b = vB.ownBlock) w w9 := ((((Mod.refl _ w).alloc _).alloc o).drew).grown hg (fun j ej _ => ej.symm)
  have hhd9 := hm9.blk h.hd (blk_ne h.oB h.hd (by decide))
  have hsz := h.mod.size
  have hlt := lt_of_blk h.hd
  refine ⟨hhd9, ⟨?_, ?_, ?_, ?_, by simp [h.len], ?_, ?_⟩⟩
  · refine Mod.setCell (p := ⟨w0.heap.size, 1, none⟩) (h.mod.step hm9 (fun i hi q => ?_)) (fun q => absurd q (Nat.lt_irrefl _)) _
    have := (h.oB.lt i q.symm).1
    exact absurd hi (by omega)
  · simpa using row_set (l := [vF, vB]) hhd9 1 v'
  · have : w9.ownsRow (w0.heap.size + 1) 30 4 vF kF (headCells (List.replicate kF freeFr)) := (((h.oF.alloc _).alloc o).drew).kept hg (own_ne h.oF h.oB (by decide))
    exact ownsRow_setCell_below this (a := ⟨w0.heap.size, 1, none⟩) (by show w0.heap.size < _; omega) v'
  · have e : rowCells (bl ++ [(w.heap.size, c)]) = rowCells bl ++ [.slice (some ⟨w.heap.size, 0, none⟩) 256 c] := by simp [rowCells]
    rw [e]
    exact ownsRow_setCell_below hown (a := ⟨w0.heap.size, 1, none⟩) (by show w0.heap.size < _; omega) v'
  · intro i p hp
    by_cases hi : i < bl.length
    · rw [List.getElem?_append_left hi] at hp
      obtain ⟨a, b, c⟩ := h.rows i p hp
      refine ⟨a, b, ?_⟩
      rw [heap_setCell_other _ _ _ _ (show p.1 ≠ w0.heap.size by omega)]
      exact hm9.blk c (blk_ne h.oB c (by decide))
    · rw [List.getElem?_append_right (by omega)] at hp
      obtain rfl : p = (w.heap.size, c) := by
        cases hq : i - bl.length with
        | zero => rw [hq] at hp; simpa using hp.symm
        | succ m => rw [hq] at hp; simp at hp
      refine ⟨hc, hlt, ?_⟩
      rw [heap_setCell_other _ _ _ _ (show w.heap.size ≠ w0.heap.size by omega)]
      have hz : ((w.alloc (.cells zeroRow 5)).alloc o).heap[w.heap.size]? = some (.cells zeroRow 5 (0, 0)) := blk_alloc (heap_alloc_new _ _) o
      exact (hg.block w.heap.size (lt_of_blk hz) (fun q => by have := (h.oB.lt _ q.symm).2; omega)).trans hz
  · rw [List.map_append, List.nodup_append]
    refine ⟨h.nd, by simp, ?_⟩
    intro a ha b hb
    simp at hb
    subst hb
    obtain ⟨p, hp, rfl⟩ := List.mem_map.1 ha
    obtain ⟨i, hi⟩ := List.getElem?_of_mem hp
    have := lt_of_blk (h.rows i p hi).2.2
    omega

theorem RNew.done {w0 w : World} {n : Nat} {vF vB : Value} {bl : List (Nat × Nat)} (h : RNew w0 n n w vF vB bl) (h0 : 1 ≤ n) (h1 : n ≤ 256) :
    ∃ K : RfK, K.R = w0.heap.size ∧ (∀ k, K.has k → w0.heap.size ≤ k) ∧ RfM w K (List.replicate n freeFr) := by
  obtain ⟨gF, cF, rfl⟩ : ∃ g cap, vF = .slice (some ⟨g, 0, none⟩) n cap := by
    rcases h.oF.2 with ⟨_, q⟩ | ⟨g, cap, _, rfl, _⟩
    · omega
    · exact ⟨_, _, rfl⟩
  obtain ⟨gB, cB, rfl⟩ : ∃ g cap, vB = .slice (some ⟨g, 0, none⟩) n cap := by
    rcases h.oB.2 with ⟨_, q⟩ | ⟨g, cap, _, rfl, _⟩
    · omega
    · exact ⟨_, _, rfl⟩
  have lF := (h.oF.lt gF rfl).1
  have lB := (h.oB.lt gB rfl).1
  rcases h.oF.2 with ⟨q, _⟩ | ⟨g1, c1, cur1, q1, _, r1, l1, _, s1, t1⟩
  · cases q
  cases q1
  rcases h.oB.2 with ⟨q, _⟩ | ⟨g2, c2, cur2, q2, _, r2, l2, _, s2, t2⟩
  · cases q
  cases q2
  refine ⟨⟨w0.heap.size, gF, gB, bl⟩, rfl, ?_, okS_replicate _ freeFr_ok, by simp; omega, by simp [h.len], ⟨cF, cB, by simpa using l1, by simpa using l2, by simpa using h.hd⟩, ⟨cur1.toList.drop (n * 4), ?_⟩, ⟨cur2.toList.drop (n * 1), ?_⟩, ?_, h.nd⟩
  · rintro k (rfl | rfl | rfl | q)
    · exact Nat.le_refl _
    · omega
    · omega
    · obtain ⟨p, hp, rfl⟩ := List.mem_map.1 q
      obtain ⟨i, hi⟩ := List.getElem?_of_mem hp
      have := (h.rows i p hi).2.1
      omega
  · rw [r1, ← t1, List.take_append_drop]
  · rw [r2, ← t2, List.take_append_drop]
  · intro i f p hf hp
    obtain ⟨a, b, c⟩ := h.rows i p hp
    have hff : f = freeFr := by
      have := List.mem_of_getElem? hf
      exact (List.mem_replicate.1 this).2
    subst hff
    refine ⟨a, [], ?_⟩
    rw [c, List.append_nil, zeroRow_eq]
    rfl

theorem Try.infoApiFrame : (Try.prog.info? 30).map (fun i => (i.zero, i.size, i.bytes)) = some (some (.agg #[.int .i64 0, .int .i64 0, .int .i64 0, .int .i64 0]), 4, 32) := by kernel_rfl
theorem Try.infoBytes : (Try.prog.info? 33).map (fun i => (i.zero, i.size, i.bytes)) = some (some (.slice none 0 0), 1, 24) := by kernel_rfl

set_option maxHeartbeats 3200000 in
theorem rnew_in (n : Nat) (w : World) (h0 : 1 ≤ n) (h1 : n ≤ 256) :
    Calls Try.prog 29 #[.int .i64 (n : Int)] w fun e w' => ∃ K, e = .returned (.tuple #[.pointer (some ⟨K.R, 0, none⟩), .int .i64 0]) ∧ (∀ k, K.has k → w.heap.size ≤ k) ∧ Mod No w w' ∧ RfM w' K (List.replicate n freeFr) := by
  have d1 : decide ((n : Int) < 1) = false := decide_eq_false (by omega)
  have d2 : decide ((256 : Int) < n) = false := decide_eq_false (by omega)
  obtain ⟨i0, hi, hz0, hz1, hz2⟩ := info_parts Try.infoApiFrame
  obtain ⟨j0, hj, hy0, hy1, hy2⟩ := info_parts Try.infoBytes
  have hmk := make_page
  go_enter Try.func29, Try.ntmps29
  go_wp2
  go_loopw [5] (fun v wr => ∃ k : Nat, k ≤ n ∧ v = .int .i64 k ∧ ∃ vF vB bl, RNew w k k wr vF vB bl) (fun v _ => n - (intOf v).toNat)
  case atStart =>
    exact ⟨0, Nat.zero_le _, rfl, .slice none 0 0, .slice none 0 0, [], (Mod.refl No w).alloc _, heap_alloc_new _ _, World.ownsRow_nil _ _ _ _, World.ownsRow_nil _ _ _ _, rfl, by simp, by simp⟩
  case round =>
    obtain ⟨k, hk, rfl, vF, vB, bl, hR⟩ := hrel
    by_cases hlt : k < n
    · have hhd := hR.hd
      have hoF := hR.oF
      have hsz := hR.mod.size
      have hltw := lt_of_blk hhd
      obtain ⟨qF, cF, rfl⟩ := owns_slice hoF
      have hoB := hR.oB
      obtain ⟨qB, cB, rfl⟩ := owns_slice hoB
      have HR := Lib.hid hR; clear hR
      have hc0 := row_cell (l := [.slice qF k cF, .slice qB k cB]) hhd 0
      simp only [List.getElem?_cons_zero] at hc0
      go_wp2_with (at_builtin; refine wpList_append_own _ rfl _ _ 67 rfl (w.heap.size + 1) 30 i0 (.agg #[.int .i64 0, .int .i64 0, .int .i64 0, .int .i64 0]) 4 32 Try.underlying67 hi hz0 hz1 hz2 rfl (by decide) _ _ _ rfl (hoF.alloc _) ⟨wr.heap.size, 0, none⟩ 1 1 freeFr.head rfl rfl (fun j u hj => by rw [Addr.add_lit, Nat.zero_add]; exact (row_cell (heap_alloc_new wr (.cells freeFr.head.toArray 30)) j).trans hj) (by simp [Value.oneCell', Fr.head]) (by unfold maxLen; omega) (by omega) (by simp; omega) ?_; intro v' w7 hown' hgrow _; obtain ⟨g', cap', rfl⟩ := owns_slice hown'; obtain ⟨hhd7, hR8⟩ := HR.out.stepF hgrow hown'; have hd0 := row_cell (l := [.slice qF k cF, .slice qB k cB]) hhd7 0; simp only [List.getElem?_cons_zero] at hd0; have hg0 := row_free (l := [.slice qF k cF, .slice qB k cB]) hhd7 0)
      have hs8 := lt_of_blk hR8.hd
      generalize w7.setCell ⟨w.heap.size, 0, none⟩ (.slice g' (k + 1) cap') = w8 at hR8 hs8 ⊢
      have hhd8 := hR8.hd
      have hoB8 := hR8.oB
      have he1 := row_cell (l := [.slice g' (k + 1) cap', .slice qB k cB]) hhd8 1
      simp only [List.getElem?_cons_zero, List.getElem?_cons_succ] at he1
      have HR8 := Lib.hid hR8
      have HOB := Lib.hid hoB8
      clear hR8 hhd8 hoB8 HR hown' hgrow hhd7 hd0 hg0 hc0 hoB hoF hhd
      go_region_law (refine step_append_own rfl (.tmp 33) (.tmp 35) 68 rfl (w.heap.size + 1) 33 j0 (.slice none 0 0) 1 24 Try.underlying68 hj hy0 hy1 hy2 rfl (by decide) (.slice qB k cB) k (rowCells bl) (by simp [Act.eval]) ((HOB.out.alloc _).alloc _).drew ⟨w8.heap.size + 1, 0, none⟩ 1 1 [.slice (some ⟨w8.heap.size, 0, none⟩) 256 256] (by simp [Act.eval]) rfl (fun j u hj => by rw [Addr.add_lit, Nat.zero_add]; exact (row_cell (heap_alloc2_new w8 (.cells zeroRow 5) (.cells #[.slice (some ⟨w8.heap.size, 0, none⟩) 256 256] 33)) j).trans hj) (by simp [Value.oneCell']) (by unfold maxLen; omega) (by omega) (by simp; omega) ?_; intro v' w9 hown9 hgrow9; obtain ⟨g9, cap9, rfl⟩ := owns_slice hown9; obtain ⟨hhd9, hR9⟩ := RNew.stepB HR8.out (Nat.le_refl _) hgrow9 hown9; have hx1 := row_cell (l := [.slice g' (k + 1) cap', .slice qB k cB]) hhd9 1; simp only [List.getElem?_cons_zero, List.getElem?_cons_succ] at hx1; have hgx := row_free (l := [.slice g' (k + 1) cap', .slice qB k cB]) hhd9 1; have HR9 := Lib.hid hR9; clear hR9)
      all_goals go_wp2
      all_goals go_roundw
      all_goals first
        | exact ⟨k + 1, by omega, by go_num, _, _, _, HR9.out⟩
        | (simp [intOf]; omega)
    · obtain rfl : k = n := by omega
      go_wp2
      go_ret2
      obtain ⟨K, hKR, hK, hM⟩ := hR.done h0 h1
      exact ⟨K, by rw [hKR]; rfl, hK, hR.mod, hM⟩

end Go.Proofs.Ythfkpbfapkpnfab
