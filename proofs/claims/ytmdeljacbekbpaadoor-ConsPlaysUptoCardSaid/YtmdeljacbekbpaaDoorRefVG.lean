/- tenementref02.View: rewrite. tenementref02.View: New, Read. tenementref02.View: Read's two ways, Word. Rest: how many rewrites are still due, the code's and the document's. A view of the code's and one of the document's, side by side. -/
import Derived.Test.YtmdeljacbekbpaaDoorViewG
import Derived.Test.YtmdeljacbekbpaaDoorRefG
import Derived.Deep.QuietTactic
import Derived.BigQuiet
import Derived.RegionTactic
import Derived.ChangeAlike
import Derived.Deep.RegionHeld3
/- tenementref02.View: rewrite. -/
namespace Go.Proofs.YtmdeljacbekbpaaDoor
open Go.RowKit
set_option maxRecDepth 100000

/-- The document's view. -/
structure RvM (w : World) (X : Nat) (K : RfK) (q : Option Addr) (cap : Nat) (l : List Pk) (N : Int) : Prop where
  head : w.heap[X]? = some (.cells #[.pointer (some ⟨K.R, 0, none⟩), .slice q l.length cap, .int .i64 N] 127 (0, 0))
theorem RvM.kept {Q : Nat → Prop} {w w' : World} {X : Nat} {K : RfK} {q : Option Addr} {cap : Nat} {l : List Pk} {N : Int} (h : RvM w X K q cap l N) (hm : Mod Q w w') (hq : ¬ Q X) : RvM w' X K q cap l N := ⟨hm.blk h.head hq⟩
theorem RvM.c {w : World} {X : Nat} {K : RfK} {q : Option Addr} {cap : Nat} {l : List Pk} {N : Int} (h : RvM w X K q cap l N) : w.cell? ⟨X, 0, none⟩ = some (.pointer (some ⟨K.R, 0, none⟩)) ∧ w.cell? ⟨X, 1, none⟩ = some (.slice q l.length cap) ∧ w.cell? ⟨X, 2, none⟩ = some (.int .i64 N) ∧ w.frozen? ⟨X, 2, none⟩ = false :=
  ⟨row_cell (l := [.pointer (some ⟨K.R, 0, none⟩), .slice q l.length cap, .int .i64 N]) h.head 0, row_cell (l := [.pointer (some ⟨K.R, 0, none⟩), .slice q l.length cap, .int .i64 N]) h.head 1,
    row_cell (l := [.pointer (some ⟨K.R, 0, none⟩), .slice q l.length cap, .int .i64 N]) h.head 2, row_free (l := [.pointer (some ⟨K.R, 0, none⟩), .slice q l.length cap, .int .i64 N]) h.head 2⟩
theorem RvM.ne {w : World} {X : Nat} {K : RfK} {q : Option Addr} {cap : Nat} {l : List Pk} {N : Int} (h : RvM w X K q cap l N) {S : List Fr} (hR : RfM w K S) : ¬ K.inn X := by
  have hh := h.head
  rintro (e | e | e)
  · obtain ⟨r, hr⟩ := hR.frow; rw [e, hr] at hh; simp at hh
  · obtain ⟨r, hr⟩ := hR.brow; rw [e, hr] at hh; simp at hh
  · obtain ⟨p, hp, rfl⟩ := List.mem_map.1 e
    obtain ⟨i, hi⟩ := List.getElem?_of_mem hp
    have hil := (List.getElem?_eq_some_iff.1 hi).1
    have hb := hR.bll
    obtain ⟨_, r, h1⟩ := hR.rows i _ p (List.getElem?_eq_getElem (by omega)) hi
    rw [h1] at hh; simp at hh

theorem poke_out {S : List Fr} {p : Pk} (h : ¬ InP S p.mfn p.off p.bs.length) : p.poke S = S := by
  unfold Pk.poke
  by_cases hm : p.mfn < 0 ∨ (S.length : Int) ≤ p.mfn
  · exact pokeS_out hm
  · obtain ⟨f, hf⟩ : ∃ f, S[p.mfn.toNat]? = some f := ⟨_, List.getElem?_eq_getElem (by omega)⟩
    exact pokeS_no hf (fun q => h ⟨by omega, q.2.1, by omega, q.2.2⟩)

set_option maxHeartbeats 1600000 in
theorem rrewrite_in {K : RfK} {S : List Fr} {X : Nat} {qv : Option Addr} {cv : Nat} {l : List Pk} {N : Int} (p : Pk) (w : World) (h : RfM w K S) (hx : RvM w X K qv cv l N) (hr : ∀ x ∈ p.bs, 0 ≤ x ∧ x ≤ 255)
    (hs : 0 < p.bs.length → ∃ b o, p.bq = some ⟨b, o, none⟩ ∧ ¬ K.inn b ∧ p.bs.length ≤ p.bc ∧ ∀ j x, p.bs[j]? = some x → w.cell? ⟨b, o + j, none⟩ = some (.int .u8 x)) :
    Calls Tryd.prog 69 #[.pointer (some ⟨X, 0, none⟩), .agg #[.int .i64 p.at_, .int .i64 p.mfn, .int .i64 p.off, .slice p.bq p.bs.length p.bc]] w fun e w' => (∃ v, e = .returned v) ∧ Mod K.inn w w' ∧ RfM w' K (p.poke S) := by
  obtain ⟨pa, pm, po, pq, pbs, pc⟩ := p
  dsimp only at hr hs ⊢
  obtain ⟨x0, _, _, _⟩ := hx.c
  have hXl := lt_of_blk hx.head
  have hal : Mod No w (w.alloc (.cells #[.int .i64 pa, .int .i64 pm, .int .i64 po, .slice pq pbs.length pc] 99)) := (Mod.refl No w).alloc _
  have x0' := (World.cell?_of_block (w := w) (hal.block X hXl (fun q => q))).trans x0
  have hbx : (w.alloc (.cells #[.int .i64 pa, .int .i64 pm, .int .i64 po, .slice pq pbs.length pc] 99)).heap[w.heap.size]? = some (.cells (⟨pa, pm, po, pq, pbs, pc⟩ : Pk).cells.toArray 99 (0, 0)) := heap_alloc_new w _
  have p1 := row_cell hbx 1
  have p2 := row_cell hbx 2
  have p3 := row_cell hbx 3
  simp only [Pk.cells, List.getElem?_cons_zero, List.getElem?_cons_succ] at p1 p2 p3
  have HH := Lib.hid h
  by_cases hp : InP S pm po pbs.length
  · obtain ⟨m, rfl⟩ : ∃ m : Nat, pm = m := ⟨pm.toNat, by have := hp.1; omega⟩
    have hml : (m : Int) < S.length := by have := hp.1; omega
    obtain ⟨f, hf⟩ : ∃ f, S[m]? = some f := ⟨_, List.getElem?_eq_getElem (by omega)⟩
    have HI : Hid (∀ n, Calls Tryd.prog 66 #[.pointer (some ⟨K.R, 0, none⟩), .int .i64 m, .int .i64 po, .int .i64 pbs.length] ((w.alloc (.cells #[.int .i64 pa, .int .i64 (m : Int), .int .i64 po, .slice pq pbs.length pc] 99)).drewN n) fun e w' => e = .returned (.bool true) ∧ w' = _) :=
      fun n => (rin_in m po pbs.length _ (HH.out.keptNo (hal.drewN n)) hp).mono fun e w' q => ⟨q.1, q.2.symm⟩
    have hin2 := hp.2
    have hpk : (⟨pa, m, po, pq, pbs, pc⟩ : Pk).poke S = pokeS S m po pbs := rfl
    have hft : S[(m : Int).toNat]? = some f := by rw [Int.toNat_natCast]; exact hf
    have hnX := hx.ne h
    have HAL := Lib.hid hal
    have HNX := Lib.hid hnX
    have HNB : Hid (¬ K.inn w.heap.size) := fun q => Nat.lt_irrefl _ (h.lt _ (RfK.inn_has q))
    have b0 : (0 : Int) ≤ m := by omega
    rw [hpk]
    by_cases hc : 0 ≤ f.owner ∧ f.type ≠ 2 ∧ f.type ≠ 3
    · have d1 : decide (f.owner < 0) = false := decide_eq_false (by omega)
      have d2 : (f.type == 2) = false := beq_eq_false_iff_ne.2 hc.2.1
      have d3 : (f.type == 3) = false := beq_eq_false_iff_ne.2 hc.2.2
      rw [pokeS_yes b0 hft ⟨hc, hin2.1, hin2.2.2⟩]
      have HWR : Hid (∀ w', Mod No w w' → Calls Tryd.prog 51 #[.pointer (some ⟨K.R, 0, none⟩), .int .i64 m, .int .i64 po, .slice pq pbs.length pc] w' fun e w2 => e = .returned (.int .i64 0) ∧ Mod K.inn w' w2 ∧ RfM w2 K (S.set (m : Int).toNat { f with bytes := splice f.bytes po.toNat pbs })) := by
        intro w' hmw
        refine rwrite_in m po pq pbs.length pc pbs f w' (HH.out.keptNo hmw) rfl hp hft (by omega) hr (fun h0 => ?_)
        obtain ⟨b, o, e, hb, hcp, hcl⟩ := hs h0
        refine ⟨b, o, e, hb, hcp, fun j x hj => ?_⟩
        have := hcl j x hj
        exact (World.cell?_of_block (w := w) (hmw.block b (World.block_lt_of_cell? w _ this) (fun q => q))).trans this
      clear hal hbx hs h hx hp hc hpk hft hnX
      go_enter Tryd.func69, Tryd.ntmps69
      go_wp2_with fail
      go_quiet ((go_at_call 66; exact Calls.quiet_of_same (HI.out _)))
      have HM1 := Lib.hid (HAL.out.drewN nq)
      have z0 := (World.cell?_of_block (w := w) (HM1.out.block X hXl (fun q => q))).trans x0
      have z1 : ((w.alloc (.cells #[.int .i64 pa, .int .i64 (m : Int), .int .i64 po, .slice pq pbs.length pc] 99)).drewN nq).cell? ⟨w.heap.size, 1, none⟩ = some (.int .i64 m) := p1
      have z2 : ((w.alloc (.cells #[.int .i64 pa, .int .i64 (m : Int), .int .i64 po, .slice pq pbs.length pc] 99)).drewN nq).cell? ⟨w.heap.size, 2, none⟩ = some (.int .i64 po) := p2
      have z3 : ((w.alloc (.cells #[.int .i64 pa, .int .i64 (m : Int), .int .i64 po, .slice pq pbs.length pc] 99)).drewN nq).cell? ⟨w.heap.size, 3, none⟩ = some (.slice pq pbs.length pc) := p3
      clear x0 x0' p1 p2 p3 HI
      generalize (w.alloc (.cells #[.int .i64 pa, .int .i64 (m : Int), .int .i64 po, .slice pq pbs.length pc] 99)).drewN nq = w1 at HM1 z0 z1 z2 z3 ⊢
      have hR1 := HH.out.keptNo HM1.out
      obtain ⟨cF, hcF, hF0⟩ := hR1.cF
      have c0 := hR1.cH hf 0 (by omega)
      have c1 := hR1.cH hf 1 (by omega)
      have c2 := hR1.cH hf 2 (by omega)
      have c3 := hR1.cH hf 3 (by omega)
      simp only [Nat.add_zero, Fr.head, List.getElem?_cons_zero, List.getElem?_cons_succ] at c0 c1 c2 c3
      have hsz1 := HM1.out.size
      have hmz : Mod No w1 (w1.alloc (.cells #[.int .i64 0, .int .i64 0, .int .i64 0, .int .i64 0] 111)) := (Mod.refl No w1).alloc _
      have az0 := (World.cell?_of_block (w := w1) (hmz.block _ (World.block_lt_of_cell? w1 _ z0) (fun q => q))).trans z0
      have az1 := (World.cell?_of_block (w := w1) (hmz.block _ (World.block_lt_of_cell? w1 _ z1) (fun q => q))).trans z1
      have ahF0 := (World.cell?_of_block (w := w1) (hmz.block _ (World.block_lt_of_cell? w1 _ hF0) (fun q => q))).trans hF0
      have ac0 := (World.cell?_of_block (w := w1) (hmz.block _ (World.block_lt_of_cell? w1 _ c0) (fun q => q))).trans c0
      have ac1 := (World.cell?_of_block (w := w1) (hmz.block _ (World.block_lt_of_cell? w1 _ c1) (fun q => q))).trans c1
      have ac2 := (World.cell?_of_block (w := w1) (hmz.block _ (World.block_lt_of_cell? w1 _ c2) (fun q => q))).trans c2
      have ac3 := (World.cell?_of_block (w := w1) (hmz.block _ (World.block_lt_of_cell? w1 _ c3) (fun q => q))).trans c3
      clear hmz
      clear hR1
      go_wp2_with fail
      go_region
      have HM3 : Hid (Mod No w (w1.alloc (.cells #[.int .i64 f.owner, .int .i64 f.type, .int .i64 f.count, .int .i64 f.total] 111)).drew) := (HM1.out.alloc _).drew
      have HM13 : Hid (Mod No w1 (w1.alloc (.cells #[.int .i64 f.owner, .int .i64 f.type, .int .i64 f.count, .int .i64 f.total] 111)).drew) := ((Mod.refl No w1).alloc _).drew
      have hS1 : (fun w' : World => w'.cell? ⟨X, 0, none⟩ = some (.pointer (some ⟨K.R, 0, none⟩)) ∧ w'.cell? ⟨w.heap.size, 1, none⟩ = some (.int .i64 m) ∧ w'.cell? ⟨w.heap.size, 2, none⟩ = some (.int .i64 po) ∧ w'.cell? ⟨w.heap.size, 3, none⟩ = some (.slice pq pbs.length pc)) (w1.alloc (.cells #[.int .i64 f.owner, .int .i64 f.type, .int .i64 f.count, .int .i64 f.total] 111)).drew :=
        ⟨(World.cell?_of_block (w := w1) (HM13.out.block X (World.block_lt_of_cell? w1 _ z0) (fun q => q))).trans z0, (World.cell?_of_block (w := w1) (HM13.out.block w.heap.size (World.block_lt_of_cell? w1 _ z1) (fun q => q))).trans z1, (World.cell?_of_block (w := w1) (HM13.out.block w.heap.size (World.block_lt_of_cell? w1 _ z1) (fun q => q))).trans z2, (World.cell?_of_block (w := w1) (HM13.out.block w.heap.size (World.block_lt_of_cell? w1 _ z1) (fun q => q))).trans z3⟩
      have hxl := World.block_lt_of_cell? _ _ hS1.1
      have hbl := World.block_lt_of_cell? _ _ hS1.2.1
      clear z0 z1 z2 z3 c0 c1 c2 c3 hF0 HM13 az0 az1 ahF0 ac0 ac1 ac2 ac3
      go_wp2_with fail
      go_region_held3 (fun w' : World => w'.cell? ⟨X, 0, none⟩ = some (.pointer (some ⟨K.R, 0, none⟩)) ∧ w'.cell? ⟨w.heap.size, 1, none⟩ = some (.int .i64 (m : Int)) ∧ w'.cell? ⟨w.heap.size, 2, none⟩ = some (.int .i64 po) ∧ w'.cell? ⟨w.heap.size, 3, none⟩ = some (.slice pq pbs.length pc)) (first | exact hS1 | assumption) ((go_at_call 51; refine (HWR.out _ (HM3.out.drew)).mono ?_; rintro e w4 ⟨rfl, hm4, hR4⟩; have hS4 : (fun w' : World => w'.cell? ⟨X, 0, none⟩ = some (.pointer (some ⟨K.R, 0, none⟩)) ∧ w'.cell? ⟨w.heap.size, 1, none⟩ = some (.int .i64 (m : Int)) ∧ w'.cell? ⟨w.heap.size, 2, none⟩ = some (.int .i64 po) ∧ w'.cell? ⟨w.heap.size, 3, none⟩ = some (.slice pq pbs.length pc)) w4 := ⟨(World.cell?_of_block (w := (w1.alloc (.cells #[.int .i64 f.owner, .int .i64 f.type, .int .i64 f.count, .int .i64 f.total] 111)).drew) (hm4.block X hxl HNX.out)).trans hS1.1, (World.cell?_of_block (w := (w1.alloc (.cells #[.int .i64 f.owner, .int .i64 f.type, .int .i64 f.count, .int .i64 f.total] 111)).drew) (hm4.block w.heap.size hbl HNB.out)).trans hS1.2.1, (World.cell?_of_block (w := (w1.alloc (.cells #[.int .i64 f.owner, .int .i64 f.type, .int .i64 f.count, .int .i64 f.total] 111)).drew) (hm4.block w.heap.size hbl HNB.out)).trans hS1.2.2.1, (World.cell?_of_block (w := (w1.alloc (.cells #[.int .i64 f.owner, .int .i64 f.type, .int .i64 f.count, .int .i64 f.total] 111)).drew) (hm4.block w.heap.size hbl HNB.out)).trans hS1.2.2.2⟩; have HM4 := Lib.hid hm4; have HR4 := Lib.hid hR4; clear hm4 hR4))
      go_wp2
      go_end0
      exact ⟨⟨_, rfl⟩, (Mod.of_no HM3.out.drew).trans HM4.out, HR4.out⟩
    · rw [pokeS_no hft (fun q => hc q.1)]
      by_cases e1 : f.owner < 0
      · have d1 : decide (f.owner < 0) = true := decide_eq_true e1
        clear hal hbx hs h hx hp hc hpk hft hnX
        go_enter Tryd.func69, Tryd.ntmps69
        go_wp2_with fail
        go_quiet ((go_at_call 66; exact Calls.quiet_of_same (HI.out _)))
        have HM1 := Lib.hid (HAL.out.drewN nq)
        have z0 := (World.cell?_of_block (w := w) (HM1.out.block X hXl (fun q => q))).trans x0
        have z1 : ((w.alloc (.cells #[.int .i64 pa, .int .i64 (m : Int), .int .i64 po, .slice pq pbs.length pc] 99)).drewN nq).cell? ⟨w.heap.size, 1, none⟩ = some (.int .i64 m) := p1
        have z2 : ((w.alloc (.cells #[.int .i64 pa, .int .i64 (m : Int), .int .i64 po, .slice pq pbs.length pc] 99)).drewN nq).cell? ⟨w.heap.size, 2, none⟩ = some (.int .i64 po) := p2
        have z3 : ((w.alloc (.cells #[.int .i64 pa, .int .i64 (m : Int), .int .i64 po, .slice pq pbs.length pc] 99)).drewN nq).cell? ⟨w.heap.size, 3, none⟩ = some (.slice pq pbs.length pc) := p3
        clear x0 x0' p1 p2 p3 HI
        generalize (w.alloc (.cells #[.int .i64 pa, .int .i64 (m : Int), .int .i64 po, .slice pq pbs.length pc] 99)).drewN nq = w1 at HM1 z0 z1 z2 z3 ⊢
        have hR1 := HH.out.keptNo HM1.out
        obtain ⟨cF, hcF, hF0⟩ := hR1.cF
        have c0 := hR1.cH hf 0 (by omega)
        have c1 := hR1.cH hf 1 (by omega)
        have c2 := hR1.cH hf 2 (by omega)
        have c3 := hR1.cH hf 3 (by omega)
        simp only [Nat.add_zero, Fr.head, List.getElem?_cons_zero, List.getElem?_cons_succ] at c0 c1 c2 c3
        have hsz1 := HM1.out.size
        have hmz : Mod No w1 (w1.alloc (.cells #[.int .i64 0, .int .i64 0, .int .i64 0, .int .i64 0] 111)) := (Mod.refl No w1).alloc _
        have az0 := (World.cell?_of_block (w := w1) (hmz.block _ (World.block_lt_of_cell? w1 _ z0) (fun q => q))).trans z0
        have az1 := (World.cell?_of_block (w := w1) (hmz.block _ (World.block_lt_of_cell? w1 _ z1) (fun q => q))).trans z1
        have ahF0 := (World.cell?_of_block (w := w1) (hmz.block _ (World.block_lt_of_cell? w1 _ hF0) (fun q => q))).trans hF0
        have ac0 := (World.cell?_of_block (w := w1) (hmz.block _ (World.block_lt_of_cell? w1 _ c0) (fun q => q))).trans c0
        have ac1 := (World.cell?_of_block (w := w1) (hmz.block _ (World.block_lt_of_cell? w1 _ c1) (fun q => q))).trans c1
        have ac2 := (World.cell?_of_block (w := w1) (hmz.block _ (World.block_lt_of_cell? w1 _ c2) (fun q => q))).trans c2
        have ac3 := (World.cell?_of_block (w := w1) (hmz.block _ (World.block_lt_of_cell? w1 _ c3) (fun q => q))).trans c3
        clear hmz
        clear hR1
        go_wp2_with fail
        go_region
        all_goals go_wp2
        all_goals refine bodyPost_ret (results_none rfl _ _ _) rfl ?_
        all_goals exact ⟨⟨_, rfl⟩, Mod.of_no ((HM1.out.alloc _).drew), HH.out.keptNo ((HM1.out.alloc _).drew)⟩
      · have d1 : decide (f.owner < 0) = false := decide_eq_false e1
        by_cases e2 : f.type = 2
        · have d2 : (f.type == 2) = true := beq_iff_eq.2 e2
          clear hal hbx hs h hx hp hc hpk hft hnX e2
          go_enter Tryd.func69, Tryd.ntmps69
          go_wp2_with fail
          go_quiet ((go_at_call 66; exact Calls.quiet_of_same (HI.out _)))
          have HM1 := Lib.hid (HAL.out.drewN nq)
          have z0 := (World.cell?_of_block (w := w) (HM1.out.block X hXl (fun q => q))).trans x0
          have z1 : ((w.alloc (.cells #[.int .i64 pa, .int .i64 (m : Int), .int .i64 po, .slice pq pbs.length pc] 99)).drewN nq).cell? ⟨w.heap.size, 1, none⟩ = some (.int .i64 m) := p1
          have z2 : ((w.alloc (.cells #[.int .i64 pa, .int .i64 (m : Int), .int .i64 po, .slice pq pbs.length pc] 99)).drewN nq).cell? ⟨w.heap.size, 2, none⟩ = some (.int .i64 po) := p2
          have z3 : ((w.alloc (.cells #[.int .i64 pa, .int .i64 (m : Int), .int .i64 po, .slice pq pbs.length pc] 99)).drewN nq).cell? ⟨w.heap.size, 3, none⟩ = some (.slice pq pbs.length pc) := p3
          clear x0 x0' p1 p2 p3 HI
          generalize (w.alloc (.cells #[.int .i64 pa, .int .i64 (m : Int), .int .i64 po, .slice pq pbs.length pc] 99)).drewN nq = w1 at HM1 z0 z1 z2 z3 ⊢
          have hR1 := HH.out.keptNo HM1.out
          obtain ⟨cF, hcF, hF0⟩ := hR1.cF
          have c0 := hR1.cH hf 0 (by omega)
          have c1 := hR1.cH hf 1 (by omega)
          have c2 := hR1.cH hf 2 (by omega)
          have c3 := hR1.cH hf 3 (by omega)
          simp only [Nat.add_zero, Fr.head, List.getElem?_cons_zero, List.getElem?_cons_succ] at c0 c1 c2 c3
          have hsz1 := HM1.out.size
          have hmz : Mod No w1 (w1.alloc (.cells #[.int .i64 0, .int .i64 0, .int .i64 0, .int .i64 0] 111)) := (Mod.refl No w1).alloc _
          have az0 := (World.cell?_of_block (w := w1) (hmz.block _ (World.block_lt_of_cell? w1 _ z0) (fun q => q))).trans z0
          have az1 := (World.cell?_of_block (w := w1) (hmz.block _ (World.block_lt_of_cell? w1 _ z1) (fun q => q))).trans z1
          have ahF0 := (World.cell?_of_block (w := w1) (hmz.block _ (World.block_lt_of_cell? w1 _ hF0) (fun q => q))).trans hF0
          have ac0 := (World.cell?_of_block (w := w1) (hmz.block _ (World.block_lt_of_cell? w1 _ c0) (fun q => q))).trans c0
          have ac1 := (World.cell?_of_block (w := w1) (hmz.block _ (World.block_lt_of_cell? w1 _ c1) (fun q => q))).trans c1
          have ac2 := (World.cell?_of_block (w := w1) (hmz.block _ (World.block_lt_of_cell? w1 _ c2) (fun q => q))).trans c2
          have ac3 := (World.cell?_of_block (w := w1) (hmz.block _ (World.block_lt_of_cell? w1 _ c3) (fun q => q))).trans c3
          clear hmz
          clear hR1
          go_wp2_with fail
          go_region
          all_goals go_wp2
          all_goals refine bodyPost_ret (results_none rfl _ _ _) rfl ?_
          all_goals exact ⟨⟨_, rfl⟩, Mod.of_no ((HM1.out.alloc _).drew), HH.out.keptNo ((HM1.out.alloc _).drew)⟩
        · have d2 : (f.type == 2) = false := beq_eq_false_iff_ne.2 e2
          have d3 : (f.type == 3) = true := by rw [beq_iff_eq]; omega
          clear hal hbx hs h hx hp hc hpk hft hnX e2
          go_enter Tryd.func69, Tryd.ntmps69
          go_wp2_with fail
          go_quiet ((go_at_call 66; exact Calls.quiet_of_same (HI.out _)))
          have HM1 := Lib.hid (HAL.out.drewN nq)
          have z0 := (World.cell?_of_block (w := w) (HM1.out.block X hXl (fun q => q))).trans x0
          have z1 : ((w.alloc (.cells #[.int .i64 pa, .int .i64 (m : Int), .int .i64 po, .slice pq pbs.length pc] 99)).drewN nq).cell? ⟨w.heap.size, 1, none⟩ = some (.int .i64 m) := p1
          have z2 : ((w.alloc (.cells #[.int .i64 pa, .int .i64 (m : Int), .int .i64 po, .slice pq pbs.length pc] 99)).drewN nq).cell? ⟨w.heap.size, 2, none⟩ = some (.int .i64 po) := p2
          have z3 : ((w.alloc (.cells #[.int .i64 pa, .int .i64 (m : Int), .int .i64 po, .slice pq pbs.length pc] 99)).drewN nq).cell? ⟨w.heap.size, 3, none⟩ = some (.slice pq pbs.length pc) := p3
          clear x0 x0' p1 p2 p3 HI
          generalize (w.alloc (.cells #[.int .i64 pa, .int .i64 (m : Int), .int .i64 po, .slice pq pbs.length pc] 99)).drewN nq = w1 at HM1 z0 z1 z2 z3 ⊢
          have hR1 := HH.out.keptNo HM1.out
          obtain ⟨cF, hcF, hF0⟩ := hR1.cF
          have c0 := hR1.cH hf 0 (by omega)
          have c1 := hR1.cH hf 1 (by omega)
          have c2 := hR1.cH hf 2 (by omega)
          have c3 := hR1.cH hf 3 (by omega)
          simp only [Nat.add_zero, Fr.head, List.getElem?_cons_zero, List.getElem?_cons_succ] at c0 c1 c2 c3
          have hsz1 := HM1.out.size
          have hmz : Mod No w1 (w1.alloc (.cells #[.int .i64 0, .int .i64 0, .int .i64 0, .int .i64 0] 111)) := (Mod.refl No w1).alloc _
          have az0 := (World.cell?_of_block (w := w1) (hmz.block _ (World.block_lt_of_cell? w1 _ z0) (fun q => q))).trans z0
          have az1 := (World.cell?_of_block (w := w1) (hmz.block _ (World.block_lt_of_cell? w1 _ z1) (fun q => q))).trans z1
          have ahF0 := (World.cell?_of_block (w := w1) (hmz.block _ (World.block_lt_of_cell? w1 _ hF0) (fun q => q))).trans hF0
          have ac0 := (World.cell?_of_block (w := w1) (hmz.block _ (World.block_lt_of_cell? w1 _ c0) (fun q => q))).trans c0
          have ac1 := (World.cell?_of_block (w := w1) (hmz.block _ (World.block_lt_of_cell? w1 _ c1) (fun q => q))).trans c1
          have ac2 := (World.cell?_of_block (w := w1) (hmz.block _ (World.block_lt_of_cell? w1 _ c2) (fun q => q))).trans c2
          have ac3 := (World.cell?_of_block (w := w1) (hmz.block _ (World.block_lt_of_cell? w1 _ c3) (fun q => q))).trans c3
          clear hmz
          clear hR1
          go_wp2_with fail
          go_region
          all_goals go_wp2
          all_goals refine bodyPost_ret (results_none rfl _ _ _) rfl ?_
          all_goals exact ⟨⟨_, rfl⟩, Mod.of_no ((HM1.out.alloc _).drew), HH.out.keptNo ((HM1.out.alloc _).drew)⟩
  · rw [poke_out (p := ⟨pa, pm, po, pq, pbs, pc⟩) hp]
    have HI : Hid (∀ n, Calls Tryd.prog 66 #[.pointer (some ⟨K.R, 0, none⟩), .int .i64 pm, .int .i64 po, .int .i64 pbs.length] ((w.alloc (.cells #[.int .i64 pa, .int .i64 pm, .int .i64 po, .slice pq pbs.length pc] 99)).drewN n) fun e w' => e = .returned (.bool false) ∧ w' = _) :=
      fun n => (rin_out pm po pbs.length _ (HH.out.keptNo (hal.drewN n)) hp).mono fun e w' q => ⟨q.1, q.2.symm⟩
    have HAL := Lib.hid hal
    clear hal hbx hs h hx hp
    go_enter Tryd.func69, Tryd.ntmps69
    go_wp2_with fail
    go_quiet ((go_at_call 66; exact Calls.quiet_of_same (HI.out _)))
    go_wp2
    refine bodyPost_ret (results_none rfl _ _ _) rfl ?_
    exact ⟨⟨_, rfl⟩, Mod.of_no (HAL.out.drewN _), HH.out.keptNo (HAL.out.drewN _)⟩

end Go.Proofs.YtmdeljacbekbpaaDoor

/- tenementref02.View: New, Read. -/
namespace Go.Proofs.YtmdeljacbekbpaaDoor
open Go.RowKit
set_option maxRecDepth 100000

theorem rvnew_long {K : RfK} (q : Option Addr) (n c : Nat) (w : World) (hn : 64 < n) (hn2 : n ≤ 140737488355328) :
    Calls Tryd.prog 47 #[.pointer (some ⟨K.R, 0, none⟩), .slice q n c] w fun e w' => e = .returned (.tuple #[.pointer none, .int .i64 2]) ∧ w = w' := by
  have d1 : decide ((64 : Int) < n) = true := decide_eq_true (by omega)
  have d2 : decide (64 < n) = true := decide_eq_true (by omega)
  go_enter Tryd.func47, Tryd.ntmps47
  go_wp2
  go_ret2
  exact ⟨rfl, rfl⟩

theorem rvnew_in {K : RfK} (q : Option Addr) (l : List Pk) (c : Nat) (w : World) (hn : l.length ≤ 64) :
    Calls Tryd.prog 47 #[.pointer (some ⟨K.R, 0, none⟩), .slice q l.length c] w fun e w' => ∃ X, e = .returned (.tuple #[.pointer (some ⟨X, 0, none⟩), .int .i64 0]) ∧ w.heap.size ≤ X ∧ Mod No w w' ∧ RvM w' X K q c l 0 := by
  have d1 : decide ((64 : Int) < l.length) = false := decide_eq_false (by omega)
  have d2 : decide (64 < l.length) = false := decide_eq_false (by omega)
  go_enter Tryd.func47, Tryd.ntmps47
  go_wp2
  go_ret2
  exact ⟨w.heap.size, rfl, Nat.le_refl _, (Mod.refl No w).alloc _, ⟨heap_alloc_new _ _⟩⟩

set_option maxHeartbeats 4000000 in
theorem rvread_any {K : RfK} {S : List Fr} {X : Nat} {q : Option Addr} {cap : Nat} {l : List Pk} {N : Int} (mfn off n : Int) (w0 w : World) (hs : PkS w0 q l) (hm0 : Mod No w0 w) (hK : ∀ k, K.has k → w0.heap.size ≤ k)
    (h : RfM w K S) (hx : RvM w X K q cap l N) (hN : 0 ≤ N ∧ N < 4611686018427387904) (hl : l.length ≤ 140737488355328)
    (Q : Ending → World → Prop) (hQ : ∀ w', Mod (fun i => K.inn i ∨ i = X) w w' → RfM w' K (pokes (dueAt l N) S) → RvM w' X K q cap l (N + 1) →
      Calls Tryd.prog 70 #[.pointer (some ⟨K.R, 0, none⟩), .int .i64 mfn, .int .i64 off, .int .i64 n] w' fun e w2 => ∃ a b, e = .returned (.tuple #[a, b]) ∧ Q (.returned (.tuple #[a, b])) w2) :
    Calls Tryd.prog 63 #[.pointer (some ⟨X, 0, none⟩), .int .i64 mfn, .int .i64 off, .int .i64 n] w Q := by
  have HQ := Lib.hid hQ
  have HS := Lib.hid hs
  have HM0 := Lib.hid hm0
  have HX := Lib.hid hx
  have HH := Lib.hid h
  have HNX := Lib.hid (hx.ne h)
  clear hQ hs hm0 hx h
  go_enter Tryd.func63, Tryd.ntmps63
  go_wp2_with fail
  go_loopw [10] (fun v wr => ∃ i : Nat, i ≤ l.length ∧ v = .int .i64 i ∧ Mod K.inn w wr ∧ RfM wr K (pokes (dueAt (l.take i) N) S)) (fun v _ => l.length - (intOf v).toNat)
  case atStart => exact ⟨0, Nat.zero_le _, rfl, Mod.refl _ _, HH.out⟩
  case round =>
    obtain ⟨i, hi, rfl, hm, hR⟩ := hrel
    have hx := HX.out.kept hm HNX.out
    obtain ⟨x0, x1, x2, x3⟩ := hx.c
    by_cases hlt : i < l.length
    · obtain ⟨p, hp⟩ : ∃ p, l[i]? = some p := ⟨_, List.getElem?_eq_getElem hlt⟩
      have hm0r : Mod No w0 wr := HM0.out.step hm (fun k hk q => by have := hK k (RfK.inn_has q); omega)
      obtain ⟨sb, so, rfl, hsb, c0, c1, c2, c3⟩ := (HS.out.kept hm0r).cellsAt hp
      have hok := HS.out.ok p (List.mem_of_getElem? hp)
      have hsn := dueAt_snoc l i p N hp
      have b3 : (0 : Int) ≤ i := by omega
      have b4 : (i : Int) < l.length := by omega
      by_cases hpN : p.at_ = N
      · have d1 : (p.at_ == N) = true := beq_iff_eq.2 hpN
        rw [if_pos hpN.symm] at hsn
        have HRW : Hid (∀ q, Calls Tryd.prog 69 #[.pointer (some ⟨X, 0, none⟩), .agg #[.int .i64 p.at_, .int .i64 p.mfn, .int .i64 p.off, .slice p.bq p.bs.length p.bc]] (wr.drewN q) fun e w' => (∃ v, e = .returned v) ∧ Mod K.inn (wr.drewN q) w' ∧ RfM w' K (p.poke (pokes (dueAt (l.take i) N) S))) :=
          fun q => rrewrite_in p (wr.drewN q) (hR.keptNo ((Mod.refl No wr).drewN q)) (hx.kept ((Mod.refl No wr).drewN q) (fun q => q)) hok.b.range (hok.b.rsrc (hm0r.drewN q) hK)
        have hsn2 : p.poke (pokes (dueAt (l.take i) N) S) = pokes (dueAt (l.take (i + 1)) N) S := by
          rw [hsn]; simp [pokes]
        rw [hsn2] at HRW
        have HM := Lib.hid hm
        clear hm hR hx hm0r hok hsn hsn2 hp hpN
        go_wp2_with fail
        go_quiet (fail)
        go_wp2_with fail
        refine (HRW.out nq).mono ?_
        rintro e w2 ⟨⟨u, rfl⟩, hm2, hR2⟩
        have HM2 : Hid (Mod K.inn w w2) := (HM.out.drewN nq).trans hm2
        have HR2 := Lib.hid hR2
        clear hm2 hR2 x0 x1 x2 x3 c0 c1 c2 c3
        go_wp2
        go_roundw
        case rel => exact ⟨i + 1, by omega, by go_num, HM2.out, HR2.out⟩
        case measure => simp [intOf]; omega
      · have d1 : (p.at_ == N) = false := beq_eq_false_iff_ne.2 hpN
        rw [if_neg (fun e => hpN e.symm)] at hsn
        rw [← hsn] at hR
        have HM := Lib.hid hm
        have HR := Lib.hid hR
        clear hm hR hx hm0r hok hsn hp hpN
        go_wp2_with fail
        go_quiet (fail)
        go_wp2
        go_roundw
        case rel => exact ⟨i + 1, by omega, by go_num, HM.out.drewN _, HR.out.keptNo ((Mod.refl No _).drewN _)⟩
        case measure => simp [intOf]; omega
    · obtain rfl : i = l.length := by omega
      rw [List.take_length] at hR
      have hnX := HNX.out
      have hx1 : RvM (wr.setCell ⟨X, 2, none⟩ (.int .i64 (N + 1))) X K q cap l (N + 1) := ⟨by
        have := row_set (l := [.pointer (some ⟨K.R, 0, none⟩), .slice q l.length cap, .int .i64 N]) hx.head 2 (.int .i64 (N + 1))
        simpa using this⟩
      have HM1 : Hid (Mod (fun i => K.inn i ∨ i = X) w (wr.setCell ⟨X, 2, none⟩ (.int .i64 (N + 1)))) := (hm.mono (fun _ _ q => .inl q)).setCell (p := ⟨X, 2, none⟩) (fun _ => .inr rfl) _
      have hR1 : RfM (wr.setCell ⟨X, 2, none⟩ (.int .i64 (N + 1))) K (pokes (dueAt l N) S) := hR.kept ((Mod.refl (One X) wr).set1 2 _) (fun k hk (e : k = X) => by
        rcases hk with q | q
        · have := hx.head
          obtain ⟨c, d, _, _, hh⟩ := hR.head
          rw [← e, q, hh] at this
          simp at this
        · exact hnX (e ▸ q))
      have HRD := Lib.hid (HQ.out _ HM1.out hR1 hx1)
      clear hx1 hR1 hR hx hm HQ hnX
      go_wp2_with fail
      refine HRD.out.mono ?_
      rintro e w2 ⟨a, b, rfl, hq⟩
      have HQ2 := Lib.hid hq
      clear hq
      go_wp2
      exact HQ2.out

end Go.Proofs.YtmdeljacbekbpaaDoor

/- tenementref02.View: Read's two ways, Word. -/
namespace Go.Proofs.YtmdeljacbekbpaaDoor
open Go.RowKit
set_option maxRecDepth 100000

theorem row_item8 {W : World} {b : Nat} {e : TypeId} {v : Value} {k : Nat} {xs : List Int} (h : W.ownsRow b e 1 v k (xs.map (Value.int .u8))) (j : Nat) (x : Int) (hj : xs[j]? = some x) :
    ∃ g cap, v = .slice (some ⟨g, 0, none⟩) k cap ∧ j < k ∧ k ≤ cap ∧ b ≤ g ∧ W.cell? ⟨g, j, none⟩ = some (.int .u8 x) := by
  have hl := h.1
  simp at hl
  have hjl := (List.getElem?_eq_some_iff.1 hj).1
  rcases h.2 with ⟨rfl, h0⟩ | ⟨g, cap, cur, rfl, hg, hr, hc, _, _, ht⟩
  · omega
  · refine ⟨g, cap, rfl, by omega, hc, hg, ?_⟩
    have := h.cells (g := g) rfl j (.int .u8 x) (by rw [List.getElem?_map, hj]; rfl)
    simpa [Addr.add_lit] using this

structure RVOut (X : Nat) (K : RfK) (q : Option Addr) (cap : Nat) (l : List Pk) (N : Int) (S : List Fr) (w w' : World) : Prop where
  mod : Mod (fun i => K.inn i ∨ i = X) w w'
  r : RfM w' K S
  v : RvM w' X K q cap l N

theorem rvread_ok {K : RfK} {S : List Fr} {X : Nat} {q : Option Addr} {cap : Nat} {l : List Pk} {N : Int} (mfn off n : Int) (f : Fr) (w0 w : World) (hs : PkS w0 q l) (hm0 : Mod No w0 w) (hK : ∀ k, K.has k → w0.heap.size ≤ k)
    (h : RfM w K S) (hx : RvM w X K q cap l N) (hN : 0 ≤ N ∧ N < 4611686018427387904) (hl : l.length ≤ 140737488355328) (hp : InP S mfn off n) (hf : (pokes (dueAt l N) S)[mfn.toNat]? = some f) :
    Calls Tryd.prog 63 #[.pointer (some ⟨X, 0, none⟩), .int .i64 mfn, .int .i64 off, .int .i64 n] w fun e w' => ∃ g c, e = .returned (.tuple #[.slice g n.toNat c, .int .i64 0]) ∧
      w'.ownsRow w.heap.size 5 1 (.slice g n.toNat c) n.toNat (((f.bytes.drop off.toNat).take n.toNat).map (Value.int .u8)) ∧ RVOut X K q cap l (N + 1) (pokes (dueAt l N) S) w w' := by
  refine rvread_any mfn off n w0 w hs hm0 hK h hx hN hl _ (fun w1 hm hR hX => ?_)
  refine (rread_in mfn off n f w1 hR (inP_len (pokes_len _ _) hp) hf).mono ?_
  rintro e w2 ⟨g, c, rfl, hm2, hown⟩
  exact ⟨_, _, rfl, g, c, rfl, ownsRow_base hown hm.size, hm.trans (Mod.of_no hm2), hR.keptNo hm2, hX.kept hm2 (fun q => q)⟩

theorem rvread_bad {K : RfK} {S : List Fr} {X : Nat} {q : Option Addr} {cap : Nat} {l : List Pk} {N : Int} (mfn off n : Int) (w0 w : World) (hs : PkS w0 q l) (hm0 : Mod No w0 w) (hK : ∀ k, K.has k → w0.heap.size ≤ k)
    (h : RfM w K S) (hx : RvM w X K q cap l N) (hN : 0 ≤ N ∧ N < 4611686018427387904) (hl : l.length ≤ 140737488355328) (hp : ¬ InP S mfn off n) :
    Calls Tryd.prog 63 #[.pointer (some ⟨X, 0, none⟩), .int .i64 mfn, .int .i64 off, .int .i64 n] w fun e w' => e = .returned (.tuple #[.slice none 0 0, .int .i64 1]) ∧ RVOut X K q cap l (N + 1) (pokes (dueAt l N) S) w w' := by
  refine rvread_any mfn off n w0 w hs hm0 hK h hx hN hl _ (fun w1 hm hR hX => ?_)
  refine (rread_out mfn off n w1 hR (fun q => hp (inP_len (pokes_len _ _).symm q))).mono ?_
  rintro e w2 ⟨rfl, rfl⟩
  exact ⟨_, _, rfl, rfl, hm, hR, hX⟩

theorem RVOut.drew {X : Nat} {K : RfK} {q : Option Addr} {cap : Nat} {l : List Pk} {N : Int} {S : List Fr} {w w' : World} (h : RVOut X K q cap l N S w w') (n : Nat) : RVOut X K q cap l N S w (w'.drewN n) :=
  ⟨h.mod.drewN n, h.r.keptNo ((Mod.refl No _).drewN n), h.v.kept ((Mod.refl No _).drewN n) (fun q => q)⟩

theorem PkS.okS {w0 : World} {q : Option Addr} {l : List Pk} (h : PkS w0 q l) {S : List Fr} (hS : Proofs.YtmdeljacbekbpaaDoor.okS S) (M : Int) : Proofs.YtmdeljacbekbpaaDoor.okS (pokes (dueAt l M) S) :=
  okS_pokes _ hS (fun p hp => (h.ok p (List.mem_filter.1 hp).1).b.range)

set_option maxHeartbeats 1600000 in
theorem rvword_ok {K : RfK} {S : List Fr} {X : Nat} {q : Option Addr} {cap : Nat} {l : List Pk} {N : Int} (mfn off : Int) (f : Fr) (w0 w : World) (hs : PkS w0 q l) (hm0 : Mod No w0 w) (hK : ∀ k, K.has k → w0.heap.size ≤ k)
    (h : RfM w K S) (hx : RvM w X K q cap l N) (hN : 0 ≤ N ∧ N < 4611686018427387904) (hl : l.length ≤ 140737488355328) (hp : InP S mfn off 2) (hf : (pokes (dueAt l N) S)[mfn.toNat]? = some f) :
    Calls Tryd.prog 62 #[.pointer (some ⟨X, 0, none⟩), .int .i64 mfn, .int .i64 off] w fun e w' => e = .returned (.tuple #[.int .u16 (word2 ((f.bytes.drop off.toNat).take 2)), .int .i64 0]) ∧ RVOut X K q cap l (N + 1) (pokes (dueAt l N) S) w w' := by
  have hfo : f.ok := hs.okS h.ok N f (List.mem_of_getElem? hf)
  obtain ⟨b0, b1, hb, r0, r1⟩ : ∃ b0 b1 : Int, (f.bytes.drop off.toNat).take 2 = [b0, b1] ∧ (0 ≤ b0 ∧ b0 ≤ 255) ∧ (0 ≤ b1 ∧ b1 ≤ 255) := by
    have hp4 := hp.2
    have hln : ((f.bytes.drop off.toNat).take 2).length = 2 := by rw [List.length_take, List.length_drop, hfo.1]; omega
    have hm : ∀ x ∈ (f.bytes.drop off.toNat).take 2, 0 ≤ x ∧ x ≤ 255 := fun x hx => hfo.2 x (List.mem_of_mem_drop (List.mem_of_mem_take hx))
    match hq : (f.bytes.drop off.toNat).take 2, hln with
    | [b0, b1], _ =>
      rw [hq] at hm
      exact ⟨b0, b1, rfl, hm b0 (by simp), hm b1 (by simp)⟩
  have HR := Lib.hid (rvread_ok mfn off 2 f w0 w hs hm0 hK h hx hN hl hp hf)
  rw [show (2 : Int).toNat = 2 from rfl, hb] at HR
  rw [hb]
  clear hb hfo hs hm0 h hx hp hf
  go_enter Tryd.func62, Tryd.ntmps62
  go_wp2_with fail
  refine HR.out.mono ?_
  rintro e w2 ⟨g, c, rfl, hown, ho⟩
  obtain ⟨g0, cap0, e0, _, hc0, _, y0⟩ := row_item8 hown 0 b0 rfl
  obtain ⟨g1, cap1, e1, _, _, _, y1⟩ := row_item8 hown 1 b1 rfl
  cases e0
  cases e1
  have HO := Lib.hid ho
  clear ho hown HR
  go_wp2_with fail
  go_quiet (fail)
  go_wp2
  go_ret2
  exact ⟨by rw [show word2 [b0, b1] = b0 + 256 * b1 from rfl]; rfl, HO.out.drew _⟩

theorem rvword_bad {K : RfK} {S : List Fr} {X : Nat} {q : Option Addr} {cap : Nat} {l : List Pk} {N : Int} (mfn off : Int) (w0 w : World) (hs : PkS w0 q l) (hm0 : Mod No w0 w) (hK : ∀ k, K.has k → w0.heap.size ≤ k)
    (h : RfM w K S) (hx : RvM w X K q cap l N) (hN : 0 ≤ N ∧ N < 4611686018427387904) (hl : l.length ≤ 140737488355328) (hp : ¬ InP S mfn off 2) :
    Calls Tryd.prog 62 #[.pointer (some ⟨X, 0, none⟩), .int .i64 mfn, .int .i64 off] w fun e w' => e = .returned (.tuple #[.int .u16 0, .int .i64 1]) ∧ RVOut X K q cap l (N + 1) (pokes (dueAt l N) S) w w' := by
  have HR := Lib.hid (rvread_bad mfn off 2 w0 w hs hm0 hK h hx hN hl hp)
  clear hp h hx hs hm0
  go_enter Tryd.func62, Tryd.ntmps62
  go_wp2_with fail
  refine HR.out.mono ?_
  rintro e w2 ⟨rfl, ho⟩
  have HO := Lib.hid ho
  clear ho
  go_wp2
  go_ret2
  exact ⟨rfl, HO.out⟩

end Go.Proofs.YtmdeljacbekbpaaDoor

/- Rest: how many rewrites are still due, the code's and the document's. -/
namespace Go.Proofs.YtmdeljacbekbpaaDoor
open Go.RowKit Go.Maps
set_option maxRecDepth 100000

def restN (l : List Pk) (N : Int) : Nat := (l.filter fun p => decide (N ≤ p.at_)).length
/-- Of those whose keys have come. -/
def restC (l : List Pk) (N : Int) (left : Lit → Bool) : Nat := (l.filter fun p => decide (N ≤ p.at_) && !left (.int .i64 p.at_)).length

theorem restC_le (l : List Pk) (N : Int) (left : Lit → Bool) : restC l N left ≤ l.length := List.length_filter_le _ _
theorem restC_end (l : List Pk) (N : Int) (left : Lit → Bool) (h : ∀ k, left k = false) : restC l N left = restN l N := by
  unfold restC restN; congr 1; apply List.filter_congr; intro p _; simp [h]

theorem restC_start : ∀ (l : List Pk) (N : Int) (left : Lit → Bool), (∀ p ∈ l, left (.int .i64 p.at_) = true) → restC l N left = 0
  | [], _, _, _ => rfl
  | p :: l, N, left, h => by
    have ih := restC_start l N left (fun q hq => h q (by simp [hq]))
    unfold restC at ih ⊢
    rw [List.filter_cons, h p (by simp)]
    simpa using ih

theorem restC_step : ∀ (l : List Pk) (N x : Int) (left : Lit → Bool), left (.int .i64 x) = true →
    restC l N (fun z => left z && !z.sameKey (.int .i64 x)) = restC l N left + if N ≤ x then (dueAt l x).length else 0
  | [], _, _, _, _ => by simp [restC, dueAt]
  | p :: l, N, x, left, h => by
    have ih := restC_step l N x left h
    unfold restC dueAt at ih ⊢
    dsimp only at ih
    simp only [List.filter_cons]
    by_cases e : p.at_ = x
    · subst e
      have hf : (left (.int .i64 p.at_) && !(Lit.int IntKind.i64 p.at_).sameKey (.int .i64 p.at_)) = false := by simp [Lit.sameKey]
      rw [hf, h, if_pos (show (p.at_ == p.at_) = true by simp)]
      by_cases hN : N ≤ p.at_
      · rw [if_pos (by simp [hN]), if_neg (by simp), if_pos hN, List.length_cons, List.length_cons]
        rw [if_pos hN] at ih
        omega
      · rw [if_neg (by simp [hN]), if_neg (by simp), if_neg hN]
        rw [if_neg hN] at ih
        omega
    · have hs : (Lit.int IntKind.i64 p.at_).sameKey (.int .i64 x) = false := sameKey_ne (by simpa using e)
      have e2 : (p.at_ == x) = false := beq_eq_false_iff_ne.2 e
      simp only [hs, e2, Bool.not_false, Bool.and_true, Bool.false_eq_true, if_false] at ih ⊢
      by_cases hN : (decide (N ≤ p.at_) && !left (.int .i64 p.at_)) = true
      · rw [if_pos hN, if_pos hN]
        simp only [List.length_cons]
        omega
      · rw [if_neg hN, if_neg hN]
        omega

end Go.Proofs.YtmdeljacbekbpaaDoor

/- A view of the code's and one of the document's, side by side. -/
namespace Go.Proofs.YtmdeljacbekbpaaDoor
open Go.RowKit
set_option maxRecDepth 100000

theorem both_write2 (m : Nat) (S : List Fr) (i off : Int) (bs : List Int) (hr : ∀ x ∈ bs, 0 ≤ x ∧ x ≤ 255) (hI : invS m S) : ∃ (r : Int) (S' : List Fr), S'.length = S.length ∧ invS m S' ∧
    (∀ w B F p c, PhM w B F S → Src w p bs → Calls Tryd.prog 17 #[.pointer (some ⟨B, 0, none⟩), .int .i64 i, .int .i64 off, .slice p bs.length c] w (POut B F (.int .i64 r) S' w)) ∧
    (∀ w K p c, RfM w K S → (0 < bs.length → ∃ b o, p = some ⟨b, o, none⟩ ∧ ¬ K.inn b ∧ bs.length ≤ c ∧ ∀ j x, bs[j]? = some x → w.cell? ⟨b, o + j, none⟩ = some (.int .u8 x)) →
      Calls Tryd.prog 51 #[.pointer (some ⟨K.R, 0, none⟩), .int .i64 i, .int .i64 off, .slice p bs.length c] w fun e w' => e = .returned (.int .i64 r) ∧ Mod K.inn w w' ∧ RfM w' K S') := by
  by_cases hp : InP S i off bs.length
  · have hil : i.toNat < S.length := by have := hp.1; omega
    have hf : S[i.toNat]? = some S[i.toNat] := List.getElem?_eq_getElem hil
    have hv := hI S[i.toNat] (List.getElem_mem hil)
    generalize S[i.toNat] = f at hf hv
    by_cases ho : f.owner = -1
    · exact ⟨11, S, rfl, hI, fun w B F p c h _ => (write_free i off p _ c f w h hp hf ho).mono fun e w' q => POut.same h q, fun w K p c h _ => (rwrite_free i off p _ c f w h hp hf ho).mono fun e w' q => by obtain ⟨rfl, rfl⟩ := q; exact ⟨rfl, Mod.refl _ _, h⟩⟩
    · refine ⟨0, S.set i.toNat { f with bytes := splice f.bytes off.toNat bs }, by simp, hI.set _ ⟨fun q => absurd q ho, hv.own, hv.type, hv.count, hv.zero⟩,
        fun w B F p c h hs => write_in i off p _ c bs f w h rfl hp hf ho hs, fun w K p c h hs => rwrite_in i off p _ c bs f w h rfl hp hf ho hr hs⟩
  · exact ⟨1, S, rfl, hI, fun w B F p c h _ => (write_out i off p _ c w h hp).mono fun e w' q => POut.same h q, fun w K p c h _ => (rwrite_out i off p _ c w h hp).mono fun e w' q => by obtain ⟨rfl, rfl⟩ := q; exact ⟨rfl, Mod.refl _ _, h⟩⟩

theorem invS_poke {m : Nat} {S : List Fr} (h : invS m S) (mfn off : Int) (bs : List Int) : invS m (pokeS S mfn off bs) := by
  unfold pokeS
  split
  · split
    · rename_i f hf
      split
      · rename_i hc
        have hv := h f (List.mem_of_getElem? hf)
        exact invS.set h _ ⟨fun q => by have := hc.1.1; simp only at q; omega, hv.own, hv.type, hv.count, hv.zero⟩
      · exact h
    · exact h
  · exact h
theorem invS_pokes {m : Nat} : ∀ (l : List Pk) {S : List Fr}, invS m S → invS m (pokes l S)
  | [], _, h => h
  | p :: l, _, h => invS_pokes l (invS_poke h p.mfn p.off p.bs)

structure BothV (w0 : World) (B F base top : Nat) (k : ViK) (X : Nat) (K : RfK) (q : Option Addr) (cap : Nat) (l : List Pk) (N : Int) (S : List Fr) (w : World) : Prop where
  c : VwS w0 B F base top k N l S w
  r : RfM w K S
  x : RvM w X K q cap l N
  K : ∀ j, K.has j → w0.heap.size ≤ j ∧ j < base
  X : top ≤ X
  inv : invS 8 S

theorem BothV.no {w0 w w' : World} {B F base top X : Nat} {k : ViK} {K : RfK} {q : Option Addr} {cap : Nat} {l : List Pk} {N : Int} {S : List Fr} (h : BothV w0 B F base top k X K q cap l N S w) (hm : Mod No w w') : BothV w0 B F base top k X K q cap l N S w' :=
  ⟨h.c.no hm, h.r.keptNo hm, h.x.kept hm (fun q => q), h.K, h.X, h.inv⟩

theorem BothV.mid {w0 w w1 : World} {B F base top X : Nat} {k : ViK} {K : RfK} {q : Option Addr} {cap : Nat} {l : List Pk} {N N' : Int} {S S' : List Fr} (h : BothV w0 B F base top k X K q cap l N S w) (o : VOut base top B F k N' l S' w w1) :
    RfM w1 K S ∧ RvM w1 X K q cap l N ∧ Mod No w0 w1 := by
  have hne := (h.r.ne_phys h.c.p).2
  have rg := h.c.v.d.rng
  have hF := h.c.F
  have hX := h.X
  refine ⟨h.r.kept o.mod ?_, h.x.kept o.mod ?_, (h.c.step o).mod⟩
  · rintro j hj (rfl | rfl)
    · exact hne hj
    · have := h.K _ hj; omega
  · rintro (e | e) <;> omega

theorem BothV.pair {w0 w w1 wb w2 : World} {B F base top X : Nat} {k : ViK} {K : RfK} {q : Option Addr} {cap : Nat} {l : List Pk} {N N' : Int} {S S' : List Fr} (h : BothV w0 B F base top k X K q cap l N S w) (o : VOut base top B F k N' l S' w w1)
    (hb : Mod No w1 wb) (o2 : RVOut X K q cap l N' S' wb w2) (hI : invS 8 S') : BothV w0 B F base top k X K q cap l N' S' w2 := by
  have hne := (h.r.ne_phys h.c.p)
  have hneB := (h.mid o).1
  have hc := (h.c.step o).no hb
  have rg := h.c.v.d.rng
  have hF := h.c.F
  have hX := h.X
  have hBX : B ≠ X := by
    intro e
    obtain ⟨c, _, h1⟩ := hc.p.head
    have h2 := o2.v.head
    have h3 := ((h.mid o).2.1.kept hb (fun q => q)).head
    rw [← e, h1] at h3
    simp at h3
  have hkB : ¬ K.inn B := fun q => hne.1 (RfK.inn_has q)
  refine ⟨⟨hc.p.kept o2.mod ?_ ?_, hc.v.kept o2.mod ?_, hc.mod.step o2.mod ?_, h.c.F⟩, o2.r, o2.v, h.K, h.X, hI⟩
  · rintro (e | e)
    · exact hkB e
    · exact hBX e
  · rintro (e | e)
    · exact hne.2 (RfK.inn_has e)
    · omega
  · rintro j hj1 hj2 (e | e)
    · have := h.K _ (RfK.inn_has e); omega
    · omega
  · rintro j hj (e | e)
    · have := h.K _ (RfK.inn_has e); omega
    · omega

/-- A write of the code's machine, as a step of the view. -/
theorem BothV.wcode {w0 w w1 : World} {B F base top X : Nat} {k : ViK} {K : RfK} {q : Option Addr} {cap : Nat} {l : List Pk} {N : Int} {S S' : List Fr} {v : Value} {e : Ending} (h : BothV w0 B F base top k X K q cap l N S w) (o : POut B F v S' w e w1) : VOut base top B F k N l S' w w1 := by
  have hF := h.c.F
  refine ⟨o.2.1.mono (fun _ _ q => .inl q), o.2.2, h.c.v.kept o.2.1 ?_⟩
  intro i hi1 _ (e : i = F)
  omega
theorem BothV.wref {w0 w w1 w2 : World} {B F base top X : Nat} {k : ViK} {K : RfK} {q : Option Addr} {cap : Nat} {l : List Pk} {N N' : Int} {S S' T : List Fr} (h : BothV w0 B F base top k X K q cap l N S w) (o : VOut base top B F k N' l T w w1) (hm : Mod K.inn w1 w2) (hr : RfM w2 K S') : RVOut X K q cap l N S' w1 w2 :=
  ⟨hm.mono (fun _ _ q => .inl q), hr, (h.mid o).2.1.kept hm ((h.mid o).2.1.ne (h.mid o).1)⟩

end Go.Proofs.YtmdeljacbekbpaaDoor
