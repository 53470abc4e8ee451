/- tenementlaw02.play: Write; all. -/
import Derived.Test.YthfkpbfapkpnfabLaw02Play
import Derived.Test.YthfkpbfapkpnfabPlay2
namespace Go.Proofs.Ythfkpbfapkpnfab
open Go.RowKit
set_option maxRecDepth 100000

theorem four_kept {Q : Nat → Prop} {w w' : World} {bx X : Nat} {v1 v2 v4 v0 : Value} (h : w.cell? ⟨bx, 1, none⟩ = some v1 ∧ w.cell? ⟨bx, 2, none⟩ = some v2 ∧ w.cell? ⟨bx, 4, none⟩ = some v4 ∧ w.cell? ⟨X, 0, none⟩ = some v0) (hm : Mod Q w w') (hb : ¬ Q bx) (hX : ¬ Q X) :
    w'.cell? ⟨bx, 1, none⟩ = some v1 ∧ w'.cell? ⟨bx, 2, none⟩ = some v2 ∧ w'.cell? ⟨bx, 4, none⟩ = some v4 ∧ w'.cell? ⟨X, 0, none⟩ = some v0 :=
  ⟨(World.cell?_of_block (w := w) (hm.block bx (World.block_lt_of_cell? w _ h.1) hb)).trans h.1, (World.cell?_of_block (w := w) (hm.block bx (World.block_lt_of_cell? w _ h.1) hb)).trans h.2.1,
    (World.cell?_of_block (w := w) (hm.block bx (World.block_lt_of_cell? w _ h.1) hb)).trans h.2.2.1, (World.cell?_of_block (w := w) (hm.block X (World.block_lt_of_cell? w _ h.2.2.2) hX)).trans h.2.2.2⟩

set_option maxHeartbeats 8000000 in
theorem vplay_write {w0 : World} {B F base top X : Nat} {k : ViK} {K : RfK} {q : Option Addr} {cap : Nat} {l : List Pk} {N : Int} {S : List Fr} (what mfn off nn : Int) (ad : Addr) (bs : List Int) (cap2 : Nat) (w : World) (h : BothV w0 B F base top k X K q cap l N S w) (hb : Byt w0 (some ad) bs cap2) (hwh : what ≠ 0 ∧ what ≠ 1) :
    Calls Try.prog 42 #[.pointer (some ⟨k.V, 0, none⟩), .pointer (some ⟨X, 0, none⟩), .agg #[.int .i64 what, .int .i64 mfn, .int .i64 off, .int .i64 nn, .slice (some ad) bs.length cap2]] w fun e w' =>
      e = .returned (.bool true) ∧ VTwo w0 B F base top k X K q cap l N w' := by
  obtain ⟨i0, hi, hz0, hz1, hz2⟩ := infoU8P
  obtain ⟨r, S', hl, hI', hPc, hRc⟩ := both_write2 8 S mfn off bs hb.range h.inv
  have HPC := Lib.hid hPc
  have HRC := Lib.hid hRc
  have HI2 := Lib.hid hI'
  clear hPc hRc hl hI'
  have e0 : (what == 0) = false := beq_eq_false_iff_ne.2 hwh.1
  have e1 : (what == 1) = false := beq_eq_false_iff_ne.2 hwh.2
  clear hwh
  have hal : Mod No w (w.alloc (.cells #[.int .i64 what, .int .i64 mfn, .int .i64 off, .int .i64 nn, .slice (some ad) bs.length cap2] 79)) := (Mod.refl No w).alloc _
  have hbx : (w.alloc (.cells #[.int .i64 what, .int .i64 mfn, .int .i64 off, .int .i64 nn, .slice (some ad) bs.length cap2] 79)).heap[w.heap.size]? = some (.cells #[.int .i64 what, .int .i64 mfn, .int .i64 off, .int .i64 nn, .slice (some ad) bs.length cap2] 79 (0, 0)) := heap_alloc_new _ _
  have hnF : w.heap.size ≠ F := by have := h.c.p.ltF; omega
  have hnk : w.heap.size ≠ k.V := by have := lt_of_blk h.c.v.head; omega
  have hnR : ¬ K.inn w.heap.size := fun q => Nat.lt_irrefl _ (h.r.lt _ (RfK.inn_has q))
  have h1 := h.no hal
  have HXF : Hid (X ≠ F) := by have h1 := h.X; have h2 := h.c.F; have h3 := h.c.v.d.rng; exact fun e => by omega
  have HXR : Hid (¬ K.inn X) := h.x.ne h.r
  have HH := Lib.hid h1
  have HNF := Lib.hid hnF
  have HNR := Lib.hid hnR
  clear h hal
  go_enter Try.func42, Try.ntmps42
  go_wp2_with fail
  generalize w.heap.size = bx at hbx HNF HNR hnF hnk hnR ⊢
  generalize (w.alloc (.cells #[.int .i64 what, .int .i64 mfn, .int .i64 off, .int .i64 nn, .slice (some ad) bs.length cap2] 79)) = w1 at hbx HH h1 ⊢
  have hS1 : (fun w' : World => w'.cell? ⟨bx, 1, none⟩ = some (.int .i64 mfn) ∧ w'.cell? ⟨bx, 2, none⟩ = some (.int .i64 off) ∧ w'.cell? ⟨bx, 4, none⟩ = some (.slice (some ad) bs.length cap2) ∧ w'.cell? ⟨X, 0, none⟩ = some (.pointer (some ⟨K.R, 0, none⟩))) w1 := ⟨row_cell (l := [.int .i64 what, .int .i64 mfn, .int .i64 off, .int .i64 nn, .slice (some ad) bs.length cap2]) hbx 1, row_cell (l := [.int .i64 what, .int .i64 mfn, .int .i64 off, .int .i64 nn, .slice (some ad) bs.length cap2]) hbx 2, row_cell (l := [.int .i64 what, .int .i64 mfn, .int .i64 off, .int .i64 nn, .slice (some ad) bs.length cap2]) hbx 4, h1.x.c.1⟩
  have hSA : (fun w' : World => w'.cell? ⟨bx, 1, none⟩ = some (.int .i64 mfn) ∧ w'.cell? ⟨bx, 2, none⟩ = some (.int .i64 off) ∧ w'.cell? ⟨bx, 4, none⟩ = some (.slice (some ad) bs.length cap2) ∧ w'.cell? ⟨X, 0, none⟩ = some (.pointer (some ⟨K.R, 0, none⟩))) (w1.alloc (.cells #[] 5)) := four_kept hS1 ((Mod.refl No w1).alloc _) (fun q => q) (fun q => q)
  have hcs : ∀ w', Mod No w1 w' → ∀ j u, (bs.map (Value.int .u8))[j]? = some u → w'.cell? (ad.add j) = some u := by
    intro w' hm j u hj
    rw [List.getElem?_map] at hj
    obtain ⟨x, hx, rfl⟩ := Option.map_eq_some_iff.1 hj
    have hjl := (List.getElem?_eq_some_iff.1 hx).1
    obtain ⟨sb, so, e, _, hc⟩ := (hb.kept (h1.c.mod.trans hm)).at_ (by omega)
    cases e
    rw [Addr.add_lit]
    exact hc j x hx
  have HCS := Lib.hid hcs
  have HBY := Lib.hid hb
  have hblen := hb.len
  clear h1 hbx hnF hnk hnR hcs hb
  go_region_held3 (fun w' : World => w'.cell? ⟨bx, 1, none⟩ = some (.int .i64 mfn) ∧ w'.cell? ⟨bx, 2, none⟩ = some (.int .i64 off) ∧ w'.cell? ⟨bx, 4, none⟩ = some (.slice (some ad) bs.length cap2) ∧ w'.cell? ⟨X, 0, none⟩ = some (.pointer (some ⟨K.R, 0, none⟩))) (first | exact hS1 | exact hSA | assumption) (first
    | (refine step_append_own rfl (.tmp 84) (.tmp 86) 33 rfl w1.heap.size 5 i0 (.int .u8 0) 1 1 Try.underlying33 hi hz0 hz1 hz2 rfl (by decide) (.slice (some ⟨w1.heap.size, 0, none⟩) 0 0) 0 [] (by simp [Act.eval]) (own_empty (heap_alloc_new w1 (.cells #[] 5)) (Nat.le_refl _)) ad bs.length cap2 (bs.map (Value.int .u8)) (by simp [Act.eval]) (by simp) (HCS.out _ (((Mod.refl No w1).alloc _).drew)) (oneCell_u8 _) (by unfold maxLen; omega) (by omega) (by simp) ?_; intro v' w2 hown hgrow; rw [Nat.zero_add, List.nil_append] at hown; obtain ⟨q2, c2, rfl⟩ := owns_slice hown; have hm2 : Mod No w1 w2 := (((Mod.refl No w1).alloc _).drew).grown hgrow (fun j ej hj => by cases ej; exact absurd hj (Nat.lt_irrefl _)); have hS2 : (fun w' : World => w'.cell? ⟨bx, 1, none⟩ = some (.int .i64 mfn) ∧ w'.cell? ⟨bx, 2, none⟩ = some (.int .i64 off) ∧ w'.cell? ⟨bx, 4, none⟩ = some (.slice (some ad) bs.length cap2) ∧ w'.cell? ⟨X, 0, none⟩ = some (.pointer (some ⟨K.R, 0, none⟩))) w2 := four_kept hS1 hm2 (fun q => q) (fun q => q); have HOWN := Lib.hid hown; have HM2 := Lib.hid hm2; clear hown hgrow hm2)
    | (go_at_call 85; refine (vwrite_any (V := k.V) (B := B) mfn off _ _ _ _ ((HH.out.no HM2.out).c.v.c0.1) (Q := fun w' => POut B F (.int .i64 r) S' w2 (.returned (.int .i64 r)) w') ((HPC.out _ B F _ _ ((HH.out.no HM2.out).c.p) (src_own HOWN.out HBY.out.range)).mono (fun e w' q => ⟨q.1, by have := q.1; subst this; exact q⟩))).mono ?_; rintro e w3 ⟨rfl, hpo⟩; have HPO := Lib.hid hpo; have hS3 : (fun w' : World => w'.cell? ⟨bx, 1, none⟩ = some (.int .i64 mfn) ∧ w'.cell? ⟨bx, 2, none⟩ = some (.int .i64 off) ∧ w'.cell? ⟨bx, 4, none⟩ = some (.slice (some ad) bs.length cap2) ∧ w'.cell? ⟨X, 0, none⟩ = some (.pointer (some ⟨K.R, 0, none⟩))) w3 := four_kept hS2 hpo.2.1 HNF.out HXF.out; clear hpo)
    | (go_at_call 75; refine (HRC.out _ K (some ad) cap2 ((HH.out.no HM2.out).mid ((HH.out.no HM2.out).wcode HPO.out)).1 (HBY.out.rsrc ((HH.out.no HM2.out).mid ((HH.out.no HM2.out).wcode HPO.out)).2.2 (fun j hj => (HH.out.K j hj).1))).mono ?_; rintro e w4 ⟨rfl, hm4, hr4⟩; have HM4 := Lib.hid hm4; have HR4 := Lib.hid hr4; have hS4 : (fun w' : World => w'.cell? ⟨bx, 1, none⟩ = some (.int .i64 mfn) ∧ w'.cell? ⟨bx, 2, none⟩ = some (.int .i64 off) ∧ w'.cell? ⟨bx, 4, none⟩ = some (.slice (some ad) bs.length cap2) ∧ w'.cell? ⟨X, 0, none⟩ = some (.pointer (some ⟨K.R, 0, none⟩))) w4 := four_kept hS3 hm4 HNR.out HXR.out; clear hm4 hr4))
  go_wp2
  go_ret
  exact ⟨rfl, N, S', Int.le_refl _, by omega, (HH.out.no HM2.out).pair ((HH.out.no HM2.out).wcode HPO.out) (Mod.refl No _) ((HH.out.no HM2.out).wref ((HH.out.no HM2.out).wcode HPO.out) HM4.out HR4.out) HI2.out⟩

set_option maxHeartbeats 8000000 in
theorem vplay_write_nil {w0 : World} {B F base top X : Nat} {k : ViK} {K : RfK} {q : Option Addr} {cap : Nat} {l : List Pk} {N : Int} {S : List Fr} (what mfn off nn : Int) (w : World) (h : BothV w0 B F base top k X K q cap l N S w) (hwh : what ≠ 0 ∧ what ≠ 1) :
    Calls Try.prog 42 #[.pointer (some ⟨k.V, 0, none⟩), .pointer (some ⟨X, 0, none⟩), .agg #[.int .i64 what, .int .i64 mfn, .int .i64 off, .int .i64 nn, .slice none 0 0]] w fun e w' =>
      e = .returned (.bool true) ∧ VTwo w0 B F base top k X K q cap l N w' := by
  obtain ⟨r, S', hl, hI', hPc, hRc⟩ := both_write2 8 S mfn off [] (by simp) h.inv
  have HPC := Lib.hid hPc
  have HRC := Lib.hid hRc
  have HI2 := Lib.hid hI'
  clear hPc hRc hl hI'
  have e0 : (what == 0) = false := beq_eq_false_iff_ne.2 hwh.1
  have e1 : (what == 1) = false := beq_eq_false_iff_ne.2 hwh.2
  clear hwh
  have hal : Mod No w (w.alloc (.cells #[.int .i64 what, .int .i64 mfn, .int .i64 off, .int .i64 nn, .slice none 0 0] 79)) := (Mod.refl No w).alloc _
  have hbx : (w.alloc (.cells #[.int .i64 what, .int .i64 mfn, .int .i64 off, .int .i64 nn, .slice none 0 0] 79)).heap[w.heap.size]? = some (.cells #[.int .i64 what, .int .i64 mfn, .int .i64 off, .int .i64 nn, .slice none 0 0] 79 (0, 0)) := heap_alloc_new _ _
  have hnF : w.heap.size ≠ F := by have := h.c.p.ltF; omega
  have hnk : w.heap.size ≠ k.V := by have := lt_of_blk h.c.v.head; omega
  have hnR : ¬ K.inn w.heap.size := fun q => Nat.lt_irrefl _ (h.r.lt _ (RfK.inn_has q))
  have h1 := h.no hal
  have HXF : Hid (X ≠ F) := by have h1 := h.X; have h2 := h.c.F; have h3 := h.c.v.d.rng; exact fun e => by omega
  have HXR : Hid (¬ K.inn X) := h.x.ne h.r
  have HH := Lib.hid h1
  have HNF := Lib.hid hnF
  have HNR := Lib.hid hnR
  clear h hal
  go_enter Try.func42, Try.ntmps42
  go_wp2_with fail
  generalize w.heap.size = bx at hbx HNF HNR hnF hnk hnR ⊢
  generalize (w.alloc (.cells #[.int .i64 what, .int .i64 mfn, .int .i64 off, .int .i64 nn, .slice none 0 0] 79)) = w1 at hbx HH h1 ⊢
  have hS1 : (fun w' : World => w'.cell? ⟨bx, 1, none⟩ = some (.int .i64 mfn) ∧ w'.cell? ⟨bx, 2, none⟩ = some (.int .i64 off) ∧ w'.cell? ⟨bx, 4, none⟩ = some (.slice none 0 0) ∧ w'.cell? ⟨X, 0, none⟩ = some (.pointer (some ⟨K.R, 0, none⟩))) w1 := ⟨row_cell (l := [.int .i64 what, .int .i64 mfn, .int .i64 off, .int .i64 nn, .slice none 0 0]) hbx 1, row_cell (l := [.int .i64 what, .int .i64 mfn, .int .i64 off, .int .i64 nn, .slice none 0 0]) hbx 2, row_cell (l := [.int .i64 what, .int .i64 mfn, .int .i64 off, .int .i64 nn, .slice none 0 0]) hbx 4, h1.x.c.1⟩
  have hSA : (fun w' : World => w'.cell? ⟨bx, 1, none⟩ = some (.int .i64 mfn) ∧ w'.cell? ⟨bx, 2, none⟩ = some (.int .i64 off) ∧ w'.cell? ⟨bx, 4, none⟩ = some (.slice none 0 0) ∧ w'.cell? ⟨X, 0, none⟩ = some (.pointer (some ⟨K.R, 0, none⟩))) (w1.alloc (.cells #[] 5)) := four_kept hS1 ((Mod.refl No w1).alloc _) (fun q => q) (fun q => q)
  have HM2 : Hid (Mod No w1 (w1.alloc (.cells #[] 5)).drew) := ((Mod.refl No w1).alloc _).drew
  clear h1 hbx hnF hnk hnR
  go_region_held3 (fun w' : World => w'.cell? ⟨bx, 1, none⟩ = some (.int .i64 mfn) ∧ w'.cell? ⟨bx, 2, none⟩ = some (.int .i64 off) ∧ w'.cell? ⟨bx, 4, none⟩ = some (.slice none 0 0) ∧ w'.cell? ⟨X, 0, none⟩ = some (.pointer (some ⟨K.R, 0, none⟩))) (first | exact hS1 | exact hSA | assumption) (first
    | (go_at_call 85; refine (vwrite_any (V := k.V) (B := B) mfn off _ _ _ _ ((HH.out.no HM2.out).c.v.c0.1) (Q := fun w' => POut B F (.int .i64 r) S' (w1.alloc (.cells #[] 5)).drew (.returned (.int .i64 r)) w') ((HPC.out _ B F _ _ ((HH.out.no HM2.out).c.p) (Src.nil _ _)).mono (fun e w' q => ⟨q.1, by have := q.1; subst this; exact q⟩))).mono ?_; rintro e w3 ⟨rfl, hpo⟩; have HPO := Lib.hid hpo; have hS3 : (fun w' : World => w'.cell? ⟨bx, 1, none⟩ = some (.int .i64 mfn) ∧ w'.cell? ⟨bx, 2, none⟩ = some (.int .i64 off) ∧ w'.cell? ⟨bx, 4, none⟩ = some (.slice none 0 0) ∧ w'.cell? ⟨X, 0, none⟩ = some (.pointer (some ⟨K.R, 0, none⟩))) w3 := four_kept hSA (((Mod.of_no (Mod.refl No _).drew) : Mod (One F) _ _).trans hpo.2.1) HNF.out HXF.out; clear hpo)
    | (go_at_call 75; refine (HRC.out _ K none 0 ((HH.out.no HM2.out).mid ((HH.out.no HM2.out).wcode HPO.out)).1 (fun h0 => absurd h0 (Nat.lt_irrefl _))).mono ?_; rintro e w4 ⟨rfl, hm4, hr4⟩; have HM4 := Lib.hid hm4; have HR4 := Lib.hid hr4; have hS4 : (fun w' : World => w'.cell? ⟨bx, 1, none⟩ = some (.int .i64 mfn) ∧ w'.cell? ⟨bx, 2, none⟩ = some (.int .i64 off) ∧ w'.cell? ⟨bx, 4, none⟩ = some (.slice none 0 0) ∧ w'.cell? ⟨X, 0, none⟩ = some (.pointer (some ⟨K.R, 0, none⟩))) w4 := four_kept hS3 hm4 HNR.out HXR.out; clear hm4 hr4))
  go_wp2
  go_ret
  exact ⟨rfl, N, S', Int.le_refl _, by omega, (HH.out.no HM2.out).pair ((HH.out.no HM2.out).wcode HPO.out) (Mod.refl No _) ((HH.out.no HM2.out).wref ((HH.out.no HM2.out).wcode HPO.out) HM4.out HR4.out) HI2.out⟩

theorem vplay_any {w0 : World} {B F base top X : Nat} {k : ViK} {K : RfK} {q : Option Addr} {cap : Nat} {l : List Pk} {N : Int} {S : List Fr} (o : VOp) (w : World) (h : BothV w0 B F base top k X K q cap l N S w) (hs : PkS w0 q l) (hb : Byt w0 o.bq o.bs o.bc) (hN : 0 ≤ N ∧ N < 4611686018427387904) (hl : l.length ≤ 140737488355328) :
    Calls Try.prog 42 #[.pointer (some ⟨k.V, 0, none⟩), .pointer (some ⟨X, 0, none⟩), .agg o.cells.toArray] w fun e w' =>
      e = .returned (.bool true) ∧ VTwo w0 B F base top k X K q cap l N w' := by
  obtain ⟨what, mfn, off, n, bq, bs, bc⟩ := o
  dsimp only at hb
  simp only [VOp.cells]
  by_cases h0 : what = 0
  · subst h0; exact vplay_read mfn off n bq _ bc w h hs hN hl
  by_cases h1 : what = 1
  · subst h1; exact vplay_word mfn off n bq _ bc w h hs hN hl
  cases bq with
  | none =>
    obtain ⟨rfl, rfl⟩ := hb.nil rfl
    exact vplay_write_nil what mfn off n w h ⟨h0, h1⟩
  | some ad => exact vplay_write what mfn off n ad bs bc w h hb ⟨h0, h1⟩

end Go.Proofs.Ythfkpbfapkpnfab
