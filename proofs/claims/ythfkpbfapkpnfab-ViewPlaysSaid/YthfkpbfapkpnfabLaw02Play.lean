/- tenementlaw02.play: Read and Word. -/
import Derived.Test.YthfkpbfapkpnfabBothV
import Derived.Test.YthfkpbfapkpnfabOpenVOp
namespace Go.Proofs.Ythfkpbfapkpnfab
open Go.RowKit
set_option maxRecDepth 100000

theorem vbox_cells {w : World} {bx : Nat} {o : VOp} (h : w.heap[bx]? = some (.cells o.cells.toArray 79 (0, 0))) :
    w.cell? ⟨bx, 0, none⟩ = some (.int .i64 o.what) ∧ w.cell? ⟨bx, 1, none⟩ = some (.int .i64 o.mfn) ∧ w.cell? ⟨bx, 2, none⟩ = some (.int .i64 o.off) ∧ w.cell? ⟨bx, 3, none⟩ = some (.int .i64 o.n) ∧ w.cell? ⟨bx, 4, none⟩ = some (.slice o.bq o.bs.length o.bc) :=
  ⟨row_cell h 0, row_cell h 1, row_cell h 2, row_cell h 3, row_cell h 4⟩

/-- What both views leave. -/
def VTwo (w0 : World) (B F base top : Nat) (k : ViK) (X : Nat) (K : RfK) (q : Option Addr) (cap : Nat) (l : List Pk) (N : Int) (w : World) : Prop := ∃ (N' : Int) (S' : List Fr), N ≤ N' ∧ N' ≤ N + 1 ∧ BothV w0 B F base top k X K q cap l N' S' w

set_option maxHeartbeats 8000000 in
theorem vplay_read {w0 : World} {B F base top X : Nat} {k : ViK} {K : RfK} {q : Option Addr} {cap : Nat} {l : List Pk} {N : Int} {S : List Fr} (mfn off n : Int) (bq : Option Addr) (bn bc : Nat) (w : World) (h : BothV w0 B F base top k X K q cap l N S w) (hs : PkS w0 q l) (hN : 0 ≤ N ∧ N < 4611686018427387904) (hl : l.length ≤ 140737488355328) :
    Calls Try.prog 42 #[.pointer (some ⟨k.V, 0, none⟩), .pointer (some ⟨X, 0, none⟩), .agg #[.int .i64 0, .int .i64 mfn, .int .i64 off, .int .i64 n, .slice bq bn bc]] w fun e w' =>
      e = .returned (.bool true) ∧ VTwo w0 B F base top k X K q cap l N w' := by
  have hal : Mod No w (w.alloc (.cells #[.int .i64 0, .int .i64 mfn, .int .i64 off, .int .i64 n, .slice bq bn bc] 79)) := (Mod.refl No w).alloc _
  have hbx : (w.alloc (.cells #[.int .i64 0, .int .i64 mfn, .int .i64 off, .int .i64 n, .slice bq bn bc] 79)).heap[w.heap.size]? = some (.cells #[.int .i64 0, .int .i64 mfn, .int .i64 off, .int .i64 n, .slice bq bn bc] 79 (0, 0)) := heap_alloc_new _ _
  have hnF : w.heap.size ≠ F := by have := h.c.p.ltF; omega
  have hnk : w.heap.size ≠ k.V := by have := lt_of_blk h.c.v.head; omega
  have h1 := h.no hal
  have HH := Lib.hid h1
  have HS := Lib.hid hs
  have HBX := Lib.hid hbx
  clear h hal hs
  go_enter Try.func42, Try.ntmps42
  go_wp2_with fail
  generalize w.heap.size = bx at hbx HBX hnF hnk ⊢
  generalize (w.alloc (.cells #[.int .i64 0, .int .i64 mfn, .int .i64 off, .int .i64 n, .slice bq bn bc] 79)) = w1 at hbx HBX HH h1 ⊢
  clear h1
  by_cases hp : InP S mfn off n
  · obtain ⟨f, hf⟩ : ∃ f, (pokes (dueAt l N) S)[mfn.toNat]? = some f := ⟨_, List.getElem?_eq_getElem (by rw [pokes_len]; have := hp.1; omega)⟩
    have hfo : f.ok := HH.out.c.v.okS HH.out.c.p.ok N f (List.mem_of_getElem? hf)
    obtain ⟨xs, hxs⟩ : ∃ xs, xs = (f.bytes.drop off.toNat).take n.toNat := ⟨_, rfl⟩
    have hxl : xs.length = n.toNat := by have := hp.2; rw [hxs]; simp [hfo.1]; omega
    have HC := Lib.hid (vread_ok mfn off n f w1 HH.out.c.p HH.out.c.v HH.out.c.F.2 hN hl hp hf)
    have HP := Lib.hid hp
    have HF := Lib.hid hf
    clear hp hf hbx
    refine HC.out.mono ?_
    rintro e w2 ⟨g, rfl, hg0, hg1, hrow, ho⟩
    have hbx2 : w2.heap[bx]? = some (.cells #[.int .i64 0, .int .i64 mfn, .int .i64 off, .int .i64 n, .slice bq bn bc] 79 (0, 0)) := ho.mod.blk HBX.out (by rintro (e | e); exact hnF e; exact hnk e)
    have x1 := row_cell (l := [.int .i64 0, .int .i64 mfn, .int .i64 off, .int .i64 n, .slice bq bn bc]) hbx2 1
    have x2 := row_cell (l := [.int .i64 0, .int .i64 mfn, .int .i64 off, .int .i64 n, .slice bq bn bc]) hbx2 2
    have x3 := row_cell (l := [.int .i64 0, .int .i64 mfn, .int .i64 off, .int .i64 n, .slice bq bn bc]) hbx2 3
    simp only [List.getElem?_cons_zero, List.getElem?_cons_succ] at x1 x2 x3
    rw [← hxs] at hrow
    have HO := Lib.hid ho
    have HROW := Lib.hid hrow
    have hmid := HH.out.mid ho
    have HRD := Lib.hid (rvread_ok mfn off n f w0 w2 HS.out hmid.2.2 (fun j hj => (HH.out.K j hj).1) hmid.1 hmid.2.1 hN hl HP.out HF.out)
    have HGX : Hid (∀ j, g = j → ¬ (K.inn j ∨ j = X)) := fun j e q => by
      subst e
      rcases q with q | q
      · have := HH.out.r.lt _ (RfK.inn_has q); omega
      · have := lt_of_blk HH.out.x.head; omega
    clear ho hrow hmid hbx2 HC
    go_wp2_with fail
    refine HRD.out.mono ?_
    rintro e w3 ⟨q3, c3, rfl, hown, ho3⟩
    rw [← hxs] at hown
    have hcv := conv_own hown
    have hg3 : w3.heap[g]? = some (.cells (xs.map (Value.int .u8)).toArray 5 (0, 0)) := ho3.mod.blk HROW.out (HGX.out g rfl)
    have hcv2 := conv_row (w := w3) hg3 0 n.toNat n.toNat xs (by rw [List.drop_zero, List.take_of_length_le (by omega)]) (by omega)
    have hb := HH.out.pair HO.out (Mod.refl No w2) ho3 (invS_pokes _ HH.out.inv)
    have HB := Lib.hid hb
    clear hb hown hg3 ho3 hxs x1 x2 x3 hfo hxl
    go_wp2
    go_ret
    exact ⟨by simp, N + 1, _, by omega, by omega, HB.out⟩
  · have HC := Lib.hid (vread_bad mfn off n w1 HH.out.c.p HH.out.c.v HH.out.c.F.2 hN hl hp)
    have HP := Lib.hid hp
    clear hp hbx
    refine HC.out.mono ?_
    rintro e w2 ⟨rfl, ho⟩
    have hbx2 : w2.heap[bx]? = some (.cells #[.int .i64 0, .int .i64 mfn, .int .i64 off, .int .i64 n, .slice bq bn bc] 79 (0, 0)) := ho.mod.blk HBX.out (by rintro (e | e); exact hnF e; exact hnk e)
    have x1 := row_cell (l := [.int .i64 0, .int .i64 mfn, .int .i64 off, .int .i64 n, .slice bq bn bc]) hbx2 1
    have x2 := row_cell (l := [.int .i64 0, .int .i64 mfn, .int .i64 off, .int .i64 n, .slice bq bn bc]) hbx2 2
    have x3 := row_cell (l := [.int .i64 0, .int .i64 mfn, .int .i64 off, .int .i64 n, .slice bq bn bc]) hbx2 3
    simp only [List.getElem?_cons_zero, List.getElem?_cons_succ] at x1 x2 x3
    have HO := Lib.hid ho
    have hmid := HH.out.mid ho
    have HRD := Lib.hid (rvread_bad mfn off n w0 w2 HS.out hmid.2.2 (fun j hj => (HH.out.K j hj).1) hmid.1 hmid.2.1 hN hl HP.out)
    clear ho hmid hbx2 HC
    go_wp2_with fail
    refine HRD.out.mono ?_
    rintro e w3 ⟨rfl, ho3⟩
    have hcn : ∀ w, (convert 33 9 (.slice none 0 0)).run Try.prog w = .ok (.string (strOfNums [])) w := fun _ => rfl
    have HB := Lib.hid (HH.out.pair HO.out (Mod.refl No w2) ho3 (invS_pokes _ HH.out.inv))
    clear ho3 x1 x2 x3
    go_wp2
    go_ret
    exact ⟨by simp, N + 1, _, by omega, by omega, HB.out⟩

set_option maxHeartbeats 8000000 in
theorem vplay_word {w0 : World} {B F base top X : Nat} {k : ViK} {K : RfK} {q : Option Addr} {cap : Nat} {l : List Pk} {N : Int} {S : List Fr} (mfn off n : Int) (bq : Option Addr) (bn bc : Nat) (w : World) (h : BothV w0 B F base top k X K q cap l N S w) (hs : PkS w0 q l) (hN : 0 ≤ N ∧ N < 4611686018427387904) (hl : l.length ≤ 140737488355328) :
    Calls Try.prog 42 #[.pointer (some ⟨k.V, 0, none⟩), .pointer (some ⟨X, 0, none⟩), .agg #[.int .i64 1, .int .i64 mfn, .int .i64 off, .int .i64 n, .slice bq bn bc]] w fun e w' =>
      e = .returned (.bool true) ∧ VTwo w0 B F base top k X K q cap l N w' := by
  have hal : Mod No w (w.alloc (.cells #[.int .i64 1, .int .i64 mfn, .int .i64 off, .int .i64 n, .slice bq bn bc] 79)) := (Mod.refl No w).alloc _
  have hbx : (w.alloc (.cells #[.int .i64 1, .int .i64 mfn, .int .i64 off, .int .i64 n, .slice bq bn bc] 79)).heap[w.heap.size]? = some (.cells #[.int .i64 1, .int .i64 mfn, .int .i64 off, .int .i64 n, .slice bq bn bc] 79 (0, 0)) := heap_alloc_new _ _
  have hnF : w.heap.size ≠ F := by have := h.c.p.ltF; omega
  have hnk : w.heap.size ≠ k.V := by have := lt_of_blk h.c.v.head; omega
  have h1 := h.no hal
  have HH := Lib.hid h1
  have HS := Lib.hid hs
  have HBX := Lib.hid hbx
  clear h hal hs
  go_enter Try.func42, Try.ntmps42
  go_wp2_with fail
  generalize w.heap.size = bx at hbx HBX hnF hnk ⊢
  generalize (w.alloc (.cells #[.int .i64 1, .int .i64 mfn, .int .i64 off, .int .i64 n, .slice bq bn bc] 79)) = w1 at hbx HBX HH h1 ⊢
  clear h1
  have hword : ∃ (x r : Int),
      (Calls Try.prog 40 #[.pointer (some ⟨k.V, 0, none⟩), .int .i64 mfn, .int .i64 off] w1 fun e w' => e = .returned (.tuple #[.int .u16 x, .int .i64 r]) ∧ VOut base top B F k (N + 1) l (pokes (dueAt l N) S) w1 w') ∧
      (∀ w2, Mod No w0 w2 → RfM w2 K S → RvM w2 X K q cap l N → Calls Try.prog 84 #[.pointer (some ⟨X, 0, none⟩), .int .i64 mfn, .int .i64 off] w2 fun e w' => e = .returned (.tuple #[.int .u16 x, .int .i64 r]) ∧ RVOut X K q cap l (N + 1) (pokes (dueAt l N) S) w2 w') := by
    by_cases hp : InP S mfn off 2
    · obtain ⟨f, hf⟩ : ∃ f, (pokes (dueAt l N) S)[mfn.toNat]? = some f := ⟨_, List.getElem?_eq_getElem (by rw [pokes_len]; have := hp.1; omega)⟩
      exact ⟨_, _, vword_ok mfn off f w1 HH.out.c.p HH.out.c.v HH.out.c.F.2 hN hl hp hf, fun w2 hm hr hx => rvword_ok mfn off f w0 w2 HS.out hm (fun j hj => (HH.out.K j hj).1) hr hx hN hl hp hf⟩
    · exact ⟨_, _, vword_bad mfn off w1 HH.out.c.p HH.out.c.v HH.out.c.F.2 hN hl hp, fun w2 hm hr hx => rvword_bad mfn off w0 w2 HS.out hm (fun j hj => (HH.out.K j hj).1) hr hx hN hl hp⟩
  obtain ⟨x, r, hA, hB⟩ := hword
  have HA := Lib.hid hA
  have HB2 := Lib.hid hB
  clear hA hB hbx
  refine HA.out.mono ?_
  rintro e w2 ⟨rfl, ho⟩
  have hbx2 : w2.heap[bx]? = some (.cells #[.int .i64 1, .int .i64 mfn, .int .i64 off, .int .i64 n, .slice bq bn bc] 79 (0, 0)) := ho.mod.blk HBX.out (by rintro (e | e); exact hnF e; exact hnk e)
  have x1 := row_cell (l := [.int .i64 1, .int .i64 mfn, .int .i64 off, .int .i64 n, .slice bq bn bc]) hbx2 1
  have x2 := row_cell (l := [.int .i64 1, .int .i64 mfn, .int .i64 off, .int .i64 n, .slice bq bn bc]) hbx2 2
  simp only [List.getElem?_cons_zero, List.getElem?_cons_succ] at x1 x2
  have HO := Lib.hid ho
  have hmid := HH.out.mid ho
  have HRD := Lib.hid (HB2.out w2 hmid.2.2 hmid.1 hmid.2.1)
  clear ho hmid hbx2 HA HB2
  go_wp2_with fail
  refine HRD.out.mono ?_
  rintro e w3 ⟨rfl, ho3⟩
  have HB := Lib.hid (HH.out.pair HO.out (Mod.refl No w2) ho3 (invS_pokes _ HH.out.inv))
  clear ho3 x1 x2
  go_wp2
  go_ret
  exact ⟨by simp, N + 1, _, by omega, by omega, HB.out⟩

end Go.Proofs.Ythfkpbfapkpnfab
