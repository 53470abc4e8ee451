/- tenementref01: Free. -/
import Derived.Test.YthfkpbfapkpnfabRefOps
import Derived.Test.YthfkpbfapkpnfabPhysNew
namespace Go.Proofs.Ythfkpbfapkpnfab
open Go.RowKit
set_option maxRecDepth 100000

theorem RfK.row_mem {K : RfK} {i : Nat} {b c : Nat} (h : K.bl[i]? = some (b, c)) : K.has b := .inr (.inr (.inr (List.mem_map.2 ⟨(b, c), List.mem_of_getElem? h, rfl⟩)))

/-- A frame's bytes are another row, a new one. -/
theorem RfM.newRow {w : World} {K : RfK} {S : List Fr} (h : RfM w K S) {i : Nat} {f : Fr} (hi : S[i]? = some f) (b c : Nat) (bs : List Int) (hc : 256 ≤ c) (hl : bs.length = 256) (hr : ∀ x ∈ bs, 0 ≤ x ∧ x ≤ 255)
    (hb : ∃ r, w.heap[b]? = some (.cells (bs.map (Value.int .u8) ++ r).toArray 5 (0, 0))) (hn : ¬ K.has b) :
    RfM (w.setCell ⟨K.H, i, none⟩ (.slice (some ⟨b, 0, none⟩) 256 c)) { K with bl := K.bl.set i (b, c) } (S.set i { f with bytes := bs }) ∧ Mod K.inn w (w.setCell ⟨K.H, i, none⟩ (.slice (some ⟨b, 0, none⟩) 256 c)) := by
  obtain ⟨c0, d0, hc0, hd0, h1⟩ := h.head
  obtain ⟨r, h2⟩ := h.frow
  obtain ⟨q, h3⟩ := h.brow
  obtain ⟨rb, hrb⟩ := hb
  have hlt := (List.getElem?_eq_some_iff.1 hi).1
  have hbl := h.bll
  have nR : K.R ≠ K.H := by intro e; rw [e, h3] at h1; simp at h1
  have nG : K.G ≠ K.H := by intro e; rw [e, h3] at h2; simp at h2
  have nb : ∀ k cs, w.heap[k]? = some (.cells cs 5 (0, 0)) → k ≠ K.H := by intro k cs hk e; rw [e, h3] at hk; simp at hk
  refine ⟨⟨okS_set h.ok i ⟨hl, hr⟩, by simpa using h.len, by simpa using hbl, ⟨c0, d0, by simpa using hc0, by simpa using hd0, ?_⟩, ⟨r, ?_⟩, ⟨q, ?_⟩, ?_, ?_⟩, (Mod.refl _ w).setCell (p := ⟨K.H, i, none⟩) (fun _ => .inr (.inl rfl)) _⟩
  · rw [heap_setCell_other _ _ _ _ nR, h1]; simp
  · rw [heap_setCell_other _ _ _ _ nG, h2]
    have : headCells (S.set i { f with bytes := bs }) = headCells S := by
      have e := headCells_put S i f { f with bytes := bs } hi
      rw [← e]
      have hh : (headCells S).drop (i * 4) = f.head ++ (headCells S).drop (i * 4 + 4) := by
        apply List.ext_getElem?
        intro j
        by_cases hj : j < 4
        · rw [List.getElem?_append_left (by simpa [Fr.head] using hj), List.getElem?_drop, headCells_get S i j f hi hj]
        · rw [List.getElem?_append_right (by simp [Fr.head]; omega), List.getElem?_drop, List.getElem?_drop]
          congr 1; simp [Fr.head]; omega
      have hlen := headCells_len S
      show (headCells S).take (i * 4) ++ (f.head ++ (headCells S).drop (i * 4 + 4)) = headCells S
      rw [← hh, List.take_append_drop]
    rw [this]
  · rw [row_set h3, List.set_append_left _ _ (by simp [rowCells]; omega)]
    simp [rowCells, List.map_set]
  · intro i' f' p hi' hp
    by_cases e : i = i'
    · subst e
      rw [List.getElem?_set_self hlt] at hi'
      rw [List.getElem?_set_self (by omega)] at hp
      obtain rfl := Option.some.inj hi'
      obtain rfl := Option.some.inj hp
      exact ⟨hc, rb, by rw [heap_setCell_other _ _ _ _ (nb _ _ hrb), hrb]⟩
    · rw [List.getElem?_set_ne e] at hi'
      have hp : (K.bl.set i (b, c))[i']? = some p := hp
      rw [List.getElem?_set_ne e] at hp
      obtain ⟨h4, r4, h5⟩ := h.rows i' f' p hi' hp
      exact ⟨h4, r4, by rw [heap_setCell_other _ _ _ _ (nb _ _ h5), h5]⟩
  · show ((K.bl.set i (b, c)).map Prod.fst).Nodup
    rw [List.map_set]
    have hnm : b ∉ K.bl.map Prod.fst := fun q => hn (.inr (.inr (.inr q)))
    have hnd := h.nodup
    revert hnm hnd
    generalize K.bl.map Prod.fst = l
    intro hnm hnd
    clear hi hlt hbl hc hl hr hn h1 h2 h3 hrb nR nG nb
    induction l generalizing i with
    | nil => simp
    | cons x xs ih =>
      rw [List.nodup_cons] at hnd
      cases i with
      | zero =>
        rw [List.set_cons_zero, List.nodup_cons]
        exact ⟨fun q => hnm (List.mem_cons_of_mem _ q), hnd.2⟩
      | succ i =>
        rw [List.set_cons_succ, List.nodup_cons]
        refine ⟨fun q => ?_, ih (fun q => hnm (List.mem_cons_of_mem _ q)) hnd.2⟩
        rcases List.mem_or_eq_of_mem_set q with q | q
        · exact hnd.1 q
        · exact hnm (by have q : x = b := q; simp [q])

theorem rfree_out {K : RfK} {S : List Fr} (i : Int) (w : World) (h : RfM w K S) (hi : i < 0 ∨ (S.length : Int) ≤ i) :
    Calls Try.prog 70 #[.pointer (some ⟨K.R, 0, none⟩), .int .i64 i] w fun e w' => e = .returned (.int .i64 1) ∧ w = w' := by
  go_enter Try.func70, Try.ntmps70
  go_wp2_with (go_at_call 98; refine (ris_out i _ h hi).mono ?_; rintro e w' ⟨rfl, rfl⟩)
  go_ret
  exact ⟨rfl, rfl⟩

theorem rfree_err {K : RfK} {S : List Fr} (i : Int) (f : Fr) (w : World) (h : RfM w K S) (hi : 0 ≤ i) (hf : S[i.toNat]? = some f) (he : f.rest ≠ 0) :
    Calls Try.prog 70 #[.pointer (some ⟨K.R, 0, none⟩), .int .i64 i] w fun e w' => e = .returned (.int .i64 f.rest) ∧ w = w' := by
  have hlt : i.toNat < S.length := (List.getElem?_eq_some_iff.1 hf).1
  have hr := rstill_any i f w h hi hf
  generalize f.rest = r at he hr ⊢
  have HR := Lib.hid hr; clear hr
  have d1 : (r != 0) = true := bne_iff_ne.2 he
  go_enter Try.func70, Try.ntmps70
  go_wp2_with (first
    | (go_at_call 98; refine (ris_in i _ h hi (by omega)).mono ?_; rintro e w' ⟨rfl, rfl⟩)
    | (go_at_call 99; refine HR.out.mono ?_; rintro e w' ⟨rfl, rfl⟩))
  go_ret
  exact ⟨rfl, rfl⟩

/-- The blocks behind a step: those from before, and new ones. -/
def RfK.grew (K K' : RfK) (n : Nat) : Prop := K'.R = K.R ∧ ∀ k, K'.has k → K.has k ∨ n ≤ k
theorem RfK.grew_refl (K : RfK) (n : Nat) : K.grew K n := ⟨rfl, fun _ h => .inl h⟩
theorem RfK.grew_set (K : RfK) (i b c n : Nat) (h : n ≤ b) : K.grew { K with bl := K.bl.set i (b, c) } n := by
  refine ⟨rfl, ?_⟩
  rintro k (e | e | e | e)
  · exact .inl (.inl e)
  · exact .inl (.inr (.inl e))
  · exact .inl (.inr (.inr (.inl e)))
  · have e : k ∈ (K.bl.set i (b, c)).map Prod.fst := e
    rw [List.map_set] at e
    rcases List.mem_or_eq_of_mem_set e with q | q
    · exact .inl (.inr (.inr (.inr q)))
    · exact .inr (by rw [q]; exact h)

/-- A row of noughts. -/
def zeroB : List Int := List.replicate 256 0
def zeroRow : Array Value := (zeroB.map (Value.int .u8)).toArray
theorem zeroB_len : zeroB.length = 256 := List.length_replicate
theorem zeroB_range : ∀ x ∈ zeroB, 0 ≤ x ∧ x ≤ 255 := fun x hx => by have := List.eq_of_mem_replicate hx; omega
theorem make_page (w : World) : (Instr.makeSlice 33 (.int .i64 256) (.int .i64 256)).run Try.prog w = .ok (.slice (some ⟨w.heap.size, 0, none⟩) 256 256) (w.alloc (.cells zeroRow 5)) := by
  have h := run_make_row' (P := Try.prog) 33 5 (.int .u8 0) 1 Try.underlying33 Try.infoU8 rfl .i64 .i64 256 (by omega) (by omega) w
  have e : madeCells #[Value.int .u8 0] 256 = zeroRow := by rw [made_one, zeroRow, zeroB, List.map_replicate]
  rw [e] at h
  exact h
theorem zeroRow_eq : zeroRow = (zeroB.map (Value.int .u8)).toArray := rfl
attribute [irreducible] zeroRow

set_option maxHeartbeats 1600000 in
theorem rfree_ok {K : RfK} {S : List Fr} (i : Int) (f : Fr) (w : World) (h : RfM w K S) (hi : 0 ≤ i) (hf : S[i.toNat]? = some f) (hz : f.type = 0 ∧ f.count = 0) (he : f.rest = 0) :
    Calls Try.prog 70 #[.pointer (some ⟨K.R, 0, none⟩), .int .i64 i] w fun e w' => ∃ K', e = .returned (.int .i64 0) ∧ K.grew K' w.heap.size ∧ Mod K.inn w w' ∧ RfM w' K' (S.set i.toNat freeFr) := by
  have hlt : i.toNat < S.length := (List.getElem?_eq_some_iff.1 hf).1
  have hi1 : i < S.length := by omega
  obtain ⟨c, hc, hF⟩ := h.cF
  obtain ⟨d, hd, hB⟩ := h.cB
  obtain ⟨b0, c0, _, hbl, hcR, _⟩ := h.cR hf
  have hfz := h.fH (i.toNat * 4)
  have hfr : w.frozen? ⟨K.H, i.toNat, none⟩ = false := by obtain ⟨r, hr⟩ := h.brow; exact row_free hr _
  have c0 := h.cH hf 0 (by omega)
  simp only [Nat.add_zero, Fr.head, List.getElem?_cons_zero] at c0
  have ht0 : f.total = 0 := by
    unfold Fr.rest at he
    split at he
    · omega
    · split at he
      · assumption
      · omega
  have hr := rstill_any i f w h hi hf
  rw [he] at hr
  have HR := Lib.hid hr; clear hr he
  have hmk := make_page
  have hlR := h.lt K.R (.inl rfl)
  have hlG := h.lt K.G (.inr (.inl rfl))
  have hlH := h.lt K.H (.inr (.inr (.inl rfl)))
  have n1 : K.R ≠ K.G := by
    obtain ⟨_, _, _, _, h1⟩ := h.head
    obtain ⟨_, h2⟩ := h.frow
    intro e; rw [e, h2] at h1; simp at h1
  have n2 : K.H ≠ K.G := by
    obtain ⟨_, h1⟩ := h.brow
    obtain ⟨_, h2⟩ := h.frow
    intro e; rw [e, h2] at h1; simp at h1
  have n3 : K.G ≠ K.H := fun e => n2 e.symm
  have n4 : K.G ≠ K.R := fun e => n1 e.symm
  have n5 : K.R ≠ w.heap.size := by omega
  have n6 : K.H ≠ w.heap.size := by omega
  go_enter Try.func70, Try.ntmps70
  go_wp2_with (first
    | (go_at_call 98; refine (ris_in i _ h hi (by omega)).mono ?_; rintro e w' ⟨rfl, rfl⟩)
    | (go_at_call 99; refine HR.out.mono ?_; rintro e w' ⟨rfl, rfl⟩))
  go_region
  go_wp2
  go_ret
  obtain ⟨s1, m1⟩ := h.setH (f' := { f with owner := -1 }) hf rfl 0 (by omega) (v := .int .i64 (-1)) rfl
  have hs1 : (w.setCell ⟨K.G, i.toNat * 4 + 0, none⟩ (.int .i64 (-1))).heap.size = w.heap.size := by simp [World.setCell]
  have hnew := heap_alloc_new (w.setCell ⟨K.G, i.toNat * 4 + 0, none⟩ (.int .i64 (-1))) (.cells zeroRow 5)
  have e1 : zeroRow = (zeroB.map (Value.int .u8) ++ []).toArray := by rw [List.append_nil]; exact zeroRow_eq
  rw [e1] at hnew
  obtain ⟨s2, m2⟩ := (s1.alloc (.cells zeroRow 5)).newRow (i := i.toNat) (f := { f with owner := -1 }) (by simp [hlt]) w.heap.size 256 zeroB (Nat.le_refl _) zeroB_len zeroB_range ⟨[], by rw [← e1] at hnew; rw [← e1]; rw [hs1] at hnew; exact hnew⟩
    (fun q => by have := h.lt _ q; omega)
  rw [World.setCell_alloc_past _ _ _ _ (by rw [hs1]; exact hlH)] at s2 m2
  have ef : ({ { f with owner := -1 } with bytes := zeroB } : Fr) = freeFr := by
    obtain ⟨a, b, c, d, e⟩ := f
    simp only at hz ht0
    obtain ⟨rfl, rfl⟩ := hz
    subst ht0
    rfl
  rw [List.set_set, ef] at s2
  exact ⟨_, rfl, K.grew_set _ _ _ _ (Nat.le_refl _), ((m1.alloc _).trans m2).drew, s2.keptNo ((Mod.refl No _).drew)⟩

end Go.Proofs.Ythfkpbfapkpnfab
