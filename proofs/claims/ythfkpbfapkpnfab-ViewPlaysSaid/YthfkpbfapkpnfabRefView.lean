/- tenementref02.View: rewrite. -/
import Derived.Test.YthfkpbfapkpnfabViewM
import Derived.Test.YthfkpbfapkpnfabRefOps2
import Derived.Test.YthfkpbfapkpnfabRefRead
import Derived.Deep.QuietTactic
import Derived.BigQuiet
import Derived.RegionTactic
import Derived.ChangeAlike
import Derived.Deep.RegionHeld3
namespace Go.Proofs.Ythfkpbfapkpnfab
open Go.RowKit
set_option maxRecDepth 100000

/-- The document's view. -/
structure RvM (w : World) (X : Nat) (K : RfK) (q : Option Addr) (cap : Nat) (l : List Pk) (N : Int) : Prop where
  head : w.heap[X]? = some (.cells #[.pointer (some ⟨K.R, 0, none⟩), .slice q l.length cap, .int .i64 N] 90 (0, 0))
theorem RvM.kept {Q : Nat → Prop} {w w' : World} {X : Nat} {K : RfK} {q : Option Addr} {cap : Nat} {l : List Pk} {N : Int} (h : RvM w X K q cap l N) (hm : Mod Q w w') (hq : ¬ Q X) : RvM w' X K q cap l N := ⟨hm.blk h.head hq⟩
theorem RvM.c {w : World} {X : Nat} {K : RfK} {q : Option Addr} {cap : Nat} {l : List Pk} {N : Int} (h : RvM w X K q cap l N) : w.cell? ⟨X, 0, none⟩ = some (.pointer (some ⟨K.R, 0, none⟩)) ∧ w.cell? ⟨X, 1, none⟩ = some (.slice q l.length cap) ∧ w.cell? ⟨X, 2, none⟩ = some (.int .i64 N) ∧ w.frozen? ⟨X, 2, none⟩ = false :=
  ⟨row_cell (l := [.pointer (some ⟨K.R, 0, none⟩), .slice q l.length cap, .int .i64 N]) h.head 0, row_cell (l := [.pointer (some ⟨K.R, 0, none⟩), .slice q l.length cap, .int .i64 N]) h.head 1,
    row_cell (l := [.pointer (some ⟨K.R, 0, none⟩), .slice q l.length cap, .int .i64 N]) h.head 2, row_free (l := [.pointer (some ⟨K.R, 0, none⟩), .slice q l.length cap, .int .i64 N]) h.head 2⟩
theorem RvM.ne {w : World} {X : Nat} {K : RfK} {q : Option Addr} {cap : Nat} {l : List Pk} {N : Int} (h : RvM w X K q cap l N) {S : List Fr} (hR : RfM w K S) : ¬ K.inn X := by
  have hh := h.head
  rintro (e | e | e)
  · obtain ⟨r, hr⟩ := hR.frow; rw [e, hr] at hh; simp at hh
  · obtain ⟨r, hr⟩ := hR.brow; rw [e, hr] at hh; simp at hh
  · obtain ⟨p, hp, rfl⟩ := List.mem_map.1 e
    obtain ⟨i, hi⟩ := List.getElem?_of_mem hp
    have hil := (List.getElem?_eq_some_iff.1 hi).1
    have hb := hR.bll
    obtain ⟨_, r, h1⟩ := hR.rows i _ p (List.getElem?_eq_getElem (by omega)) hi
    rw [h1] at hh; simp at hh

theorem poke_out {S : List Fr} {p : Pk} (h : ¬ InP S p.mfn p.off p.bs.length) : p.poke S = S := by
  unfold Pk.poke
  by_cases hm : p.mfn < 0 ∨ (S.length : Int) ≤ p.mfn
  · exact pokeS_out hm
  · obtain ⟨f, hf⟩ : ∃ f, S[p.mfn.toNat]? = some f := ⟨_, List.getElem?_eq_getElem (by omega)⟩
    exact pokeS_no hf (fun q => h ⟨by omega, q.2.1, by omega, q.2.2⟩)

set_option maxHeartbeats 1600000 in
theorem rrewrite_in {K : RfK} {S : List Fr} {X : Nat} {qv : Option Addr} {cv : Nat} {l : List Pk} {N : Int} (p : Pk) (w : World) (h : RfM w K S) (hx : RvM w X K qv cv l N) (hr : ∀ x ∈ p.bs, 0 ≤ x ∧ x ≤ 255)
    (hs : 0 < p.bs.length → ∃ b o, p.bq = some ⟨b, o, none⟩ ∧ ¬ K.inn b ∧ p.bs.length ≤ p.bc ∧ ∀ j x, p.bs[j]? = some x → w.cell? ⟨b, o + j, none⟩ = some (.int .u8 x)) :
    Calls Try.prog 101 #[.pointer (some ⟨X, 0, none⟩), .agg #[.int .i64 p.at_, .int .i64 p.mfn, .int .i64 p.off, .slice p.bq p.bs.length p.bc]] w fun e w' => (∃ v, e = .returned v) ∧ Mod K.inn w w' ∧ RfM w' K (p.poke S) := by
  obtain ⟨pa, pm, po, pq, pbs, pc⟩ := p
  dsimp only at hr hs ⊢
  obtain ⟨x0, _, _, _⟩ := hx.c
  have hXl := lt_of_blk hx.head
  have hal : Mod No w (w.alloc (.cells #[.int .i64 pa, .int .i64 pm, .int .i64 po, .slice pq pbs.length pc] 77)) := (Mod.refl No w).alloc _
  have x0' := (World.cell?_of_block (w := w) (hal.block X hXl (fun q => q))).trans x0
  have hbx : (w.alloc (.cells #[.int .i64 pa, .int .i64 pm, .int .i64 po, .slice pq pbs.length pc] 77)).heap[w.heap.size]? = some (.cells (⟨pa, pm, po, pq, pbs, pc⟩ : Pk).cells.toArray 77 (0, 0)) := heap_alloc_new w _
  have p1 := row_cell hbx 1
  have p2 := row_cell hbx 2
  have p3 := row_cell hbx 3
  simp only [Pk.cells, List.getElem?_cons_zero, List.getElem?_cons_succ] at p1 p2 p3
  have HH := Lib.hid h
  by_cases hp : InP S pm po pbs.length
  · obtain ⟨m, rfl⟩ : ∃ m : Nat, pm = m := ⟨pm.toNat, by have := hp.1; omega⟩
    have hml : (m : Int) < S.length := by have := hp.1; omega
    obtain ⟨f, hf⟩ : ∃ f, S[m]? = some f := ⟨_, List.getElem?_eq_getElem (by omega)⟩
    have HI : Hid (∀ n, Calls Try.prog 100 #[.pointer (some ⟨K.R, 0, none⟩), .int .i64 m, .int .i64 po, .int .i64 pbs.length] ((w.alloc (.cells #[.int .i64 pa, .int .i64 (m : Int), .int .i64 po, .slice pq pbs.length pc] 77)).drewN n) fun e w' => e = .returned (.bool true) ∧ w' = _) :=
      fun n => (rin_in m po pbs.length _ (HH.out.keptNo (hal.drewN n)) hp).mono fun e w' q => ⟨q.1, q.2.symm⟩
    have hin2 := hp.2
    have hpk : (⟨pa, m, po, pq, pbs, pc⟩ : Pk).poke S = pokeS S m po pbs := rfl
    have hft : S[(m : Int).toNat]? = some f := by rw [Int.toNat_natCast]; exact hf
    have hnX := hx.ne h
    have HAL := Lib.hid hal
    have HNX := Lib.hid hnX
    have HNB : Hid (¬ K.inn w.heap.size) := fun q => Nat.lt_irrefl _ (h.lt _ (RfK.inn_has q))
    have b0 : (0 : Int) ≤ m := by omega
    rw [hpk]
    by_cases hc : 0 ≤ f.owner ∧ f.type ≠ 2 ∧ f.type ≠ 3
    · have d1 : decide (f.owner < 0) = false := decide_eq_false (by omega)
      have d2 : (f.type == 2) = false := beq_eq_false_iff_ne.2 hc.2.1
      have d3 : (f.type == 3) = false := beq_eq_false_iff_ne.2 hc.2.2
      rw [pokeS_yes b0 hft ⟨hc, hin2.1, hin2.2.2⟩]
      have HWR : Hid (∀ w', Mod No w w' → Calls Try.prog 75 #[.pointer (some ⟨K.R, 0, none⟩), .int .i64 m, .int .i64 po, .slice pq pbs.length pc] w' fun e w2 => e = .returned (.int .i64 0) ∧ Mod K.inn w' w2 ∧ RfM w2 K (S.set (m : Int).toNat { f with bytes := splice f.bytes po.toNat pbs })) := by
        intro w' hmw
        refine rwrite_in m po pq pbs.length pc pbs f w' (HH.out.keptNo hmw) rfl hp hft (by omega) hr (fun h0 => ?_)
        obtain ⟨b, o, e, hb, hcp, hcl⟩ := hs h0
        refine ⟨b, o, e, hb, hcp, fun j x hj => ?_⟩
        have := hcl j x hj
        exact (World.cell?_of_block (w := w) (hmw.block b (World.block_lt_of_cell? w _ this) (fun q => q))).trans this
      clear hal hbx hs h hx hp hc hpk hft hnX
      go_enter Try.func101, Try.ntmps101
      go_wp2_with fail
      go_quiet ((go_at_call 100; exact Calls.quiet_of_same (HI.out _)))
      have HM1 := Lib.hid (HAL.out.drewN nq)
      have z0 := (World.cell?_of_block (w := w) (HM1.out.block X hXl (fun q => q))).trans x0
      have z1 : ((w.alloc (.cells #[.int .i64 pa, .int .i64 (m : Int), .int .i64 po, .slice pq pbs.length pc] 77)).drewN nq).cell? ⟨w.heap.size, 1, none⟩ = some (.int .i64 m) := p1
      have z2 : ((w.alloc (.cells #[.int .i64 pa, .int .i64 (m : Int), .int .i64 po, .slice pq pbs.length pc] 77)).drewN nq).cell? ⟨w.heap.size, 2, none⟩ = some (.int .i64 po) := p2
      have z3 : ((w.alloc (.cells #[.int .i64 pa, .int .i64 (m : Int), .int .i64 po, .slice pq pbs.length pc] 77)).drewN nq).cell? ⟨w.heap.size, 3, none⟩ = some (.slice pq pbs.length pc) := p3
      clear x0 x0' p1 p2 p3 HI
      generalize (w.alloc (.cells #[.int .i64 pa, .int .i64 (m : Int), .int .i64 po, .slice pq pbs.length pc] 77)).drewN nq = w1 at HM1 z0 z1 z2 z3 ⊢
      have hR1 := HH.out.keptNo HM1.out
      obtain ⟨cF, hcF, hF0⟩ := hR1.cF
      have c0 := hR1.cH hf 0 (by omega)
      have c1 := hR1.cH hf 1 (by omega)
      have c2 := hR1.cH hf 2 (by omega)
      have c3 := hR1.cH hf 3 (by omega)
      simp only [Nat.add_zero, Fr.head, List.getElem?_cons_zero, List.getElem?_cons_succ] at c0 c1 c2 c3
      have hsz1 := HM1.out.size
      have hmz : Mod No w1 (w1.alloc (.cells #[.int .i64 0, .int .i64 0, .int .i64 0, .int .i64 0] 30)) := (Mod.refl No w1).alloc _
      have az0 := (World.cell?_of_block (w := w1) (hmz.block _ (World.block_lt_of_cell? w1 _ z0) (fun q => q))).trans z0
      have az1 := (World.cell?_of_block (w := w1) (hmz.block _ (World.block_lt_of_cell? w1 _ z1) (fun q => q))).trans z1
      have ahF0 := (World.cell?_of_block (w := w1) (hmz.block _ (World.block_lt_of_cell? w1 _ hF0) (fun q => q))).trans hF0
      have ac0 := (World.cell?_of_block (w := w1) (hmz.block _ (World.block_lt_of_cell? w1 _ c0) (fun q => q))).trans c0
      have ac1 := (World.cell?_of_block (w := w1) (hmz.block _ (World.block_lt_of_cell? w1 _ c1) (fun q => q))).trans c1
      have ac2 := (World.cell?_of_block (w := w1) (hmz.block _ (World.block_lt_of_cell? w1 _ c2) (fun q => q))).trans c2
      have ac3 := (World.cell?_of_block (w := w1) (hmz.block _ (World.block_lt_of_cell? w1 _ c3) (fun q => q))).trans c3
      clear hmz
      clear hR1
      go_wp2_with fail
      go_region
      have HM3 : Hid (Mod No w (w1.alloc (.cells #[.int .i64 f.owner, .int .i64 f.type, .int .i64 f.count, .int .i64 f.total] 30)).drew) := (HM1.out.alloc _).drew
      have HM13 : Hid (Mod No w1 (w1.alloc (.cells #[.int .i64 f.owner, .int .i64 f.type, .int .i64 f.count, .int .i64 f.total] 30)).drew) := ((Mod.refl No w1).alloc _).drew
      have hS1 : (fun w' : World => w'.cell? ⟨X, 0, none⟩ = some (.pointer (some ⟨K.R, 0, none⟩)) ∧ w'.cell? ⟨w.heap.size, 1, none⟩ = some (.int .i64 m) ∧ w'.cell? ⟨w.heap.size, 2, none⟩ = some (.int .i64 po) ∧ w'.cell? ⟨w.heap.size, 3, none⟩ = some (.slice pq pbs.length pc)) (w1.alloc (.cells #[.int .i64 f.owner, .int .i64 f.type, .int .i64 f.count, .int .i64 f.total] 30)).drew :=
        ⟨(World.cell?_of_block (w := w1) (HM13.out.block X (World.block_lt_of_cell? w1 _ z0) (fun q => q))).trans z0, (World.cell?_of_block (w := w1) (HM13.out.block w.heap.size (World.block_lt_of_cell? w1 _ z1) (fun q => q))).trans z1, (World.cell?_of_block (w := w1) (HM13.out.block w.heap.size (World.block_lt_of_cell? w1 _ z1) (fun q => q))).trans z2, (World.cell?_of_block (w := w1) (HM13.out.block w.heap.size (World.block_lt_of_cell? w1 _ z1) (fun q => q))).trans z3⟩
      have hxl := World.block_lt_of_cell? _ _ hS1.1
      have hbl := World.block_lt_of_cell? _ _ hS1.2.1
      clear z0 z1 z2 z3 c0 c1 c2 c3 hF0 HM13 az0 az1 ahF0 ac0 ac1 ac2 ac3
      go_wp2_with fail
      go_region_held3 (fun w' : World => w'.cell? ⟨X, 0, none⟩ = some (.pointer (some ⟨K.R, 0, none⟩)) ∧ w'.cell? ⟨w.heap.size, 1, none⟩ = some (.int .i64 (m : Int)) ∧ w'.cell? ⟨w.heap.size, 2, none⟩ = some (.int .i64 po) ∧ w'.cell? ⟨w.heap.size, 3, none⟩ = some (.slice pq pbs.length pc)) (first | exact hS1 | assumption) ((go_at_call 75; refine (HWR.out _ (HM3.out.drew)).mono ?_; rintro e w4 ⟨rfl, hm4, hR4⟩; have hS4 : (fun w' : World => w'.cell? ⟨X, 0, none⟩ = some (.pointer (some ⟨K.R, 0, none⟩)) ∧ w'.cell? ⟨w.heap.size, 1, none⟩ = some (.int .i64 (m : Int)) ∧ w'.cell? ⟨w.heap.size, 2, none⟩ = some (.int .i64 po) ∧ w'.cell? ⟨w.heap.size, 3, none⟩ = some (.slice pq pbs.length pc)) w4 := ⟨(World.cell?_of_block (w := (w1.alloc (.cells #[.int .i64 f.owner, .int .i64 f.type, .int .i64 f.count, .int .i64 f.total] 30)).drew) (hm4.block X hxl HNX.out)).trans hS1.1, (World.cell?_of_block (w := (w1.alloc (.cells #[.int .i64 f.owner, .int .i64 f.type, .int .i64 f.count, .int .i64 f.total] 30)).drew) (hm4.block w.heap.size hbl HNB.out)).trans hS1.2.1, (World.cell?_of_block (w := (w1.alloc (.cells #[.int .i64 f.owner, .int .i64 f.type, .int .i64 f.count, .int .i64 f.total] 30)).drew) (hm4.block w.heap.size hbl HNB.out)).trans hS1.2.2.1, (World.cell?_of_block (w := (w1.alloc (.cells #[.int .i64 f.owner, .int .i64 f.type, .int .i64 f.count, .int .i64 f.total] 30)).drew) (hm4.block w.heap.size hbl HNB.out)).trans hS1.2.2.2⟩; have HM4 := Lib.hid hm4; have HR4 := Lib.hid hR4; clear hm4 hR4))
      go_wp2
      go_end0
      exact ⟨⟨_, rfl⟩, (Mod.of_no HM3.out.drew).trans HM4.out, HR4.out⟩
    · rw [pokeS_no hft (fun q => hc q.1)]
      by_cases e1 : f.owner < 0
      · have d1 : decide (f.owner < 0) = true := decide_eq_true e1
        clear hal hbx hs h hx hp hc hpk hft hnX
        go_enter Try.func101, Try.ntmps101
        go_wp2_with fail
        go_quiet ((go_at_call 100; exact Calls.quiet_of_same (HI.out _)))
        have HM1 := Lib.hid (HAL.out.drewN nq)
        have z0 := (World.cell?_of_block (w := w) (HM1.out.block X hXl (fun q => q))).trans x0
        have z1 : ((w.alloc (.cells #[.int .i64 pa, .int .i64 (m : Int), .int .i64 po, .slice pq pbs.length pc] 77)).drewN nq).cell? ⟨w.heap.size, 1, none⟩ = some (.int .i64 m) := p1
        have z2 : ((w.alloc (.cells #[.int .i64 pa, .int .i64 (m : Int), .int .i64 po, .slice pq pbs.length pc] 77)).drewN nq).cell? ⟨w.heap.size, 2, none⟩ = some (.int .i64 po) := p2
        have z3 : ((w.alloc (.cells #[.int .i64 pa, .int .i64 (m : Int), .int .i64 po, .slice pq pbs.length pc] 77)).drewN nq).cell? ⟨w.heap.size, 3, none⟩ = some (.slice pq pbs.length pc) := p3
        clear x0 x0' p1 p2 p3 HI
        generalize (w.alloc (.cells #[.int .i64 pa, .int .i64 (m : Int), .int .i64 po, .slice pq pbs.length pc] 77)).drewN nq = w1 at HM1 z0 z1 z2 z3 ⊢
        have hR1 := HH.out.keptNo HM1.out
        obtain ⟨cF, hcF, hF0⟩ := hR1.cF
        have c0 := hR1.cH hf 0 (by omega)
        have c1 := hR1.cH hf 1 (by omega)
        have c2 := hR1.cH hf 2 (by omega)
        have c3 := hR1.cH hf 3 (by omega)
        simp only [Nat.add_zero, Fr.head, List.getElem?_cons_zero, List.getElem?_cons_succ] at c0 c1 c2 c3
        have hsz1 := HM1.out.size
        have hmz : Mod No w1 (w1.alloc (.cells #[.int .i64 0, .int .i64 0, .int .i64 0, .int .i64 0] 30)) := (Mod.refl No w1).alloc _
        have az0 := (World.cell?_of_block (w := w1) (hmz.block _ (World.block_lt_of_cell? w1 _ z0) (fun q => q))).trans z0
        have az1 := (World.cell?_of_block (w := w1) (hmz.block _ (World.block_lt_of_cell? w1 _ z1) (fun q => q))).trans z1
        have ahF0 := (World.cell?_of_block (w := w1) (hmz.block _ (World.block_lt_of_cell? w1 _ hF0) (fun q => q))).trans hF0
        have ac0 := (World.cell?_of_block (w := w1) (hmz.block _ (World.block_lt_of_cell? w1 _ c0) (fun q => q))).trans c0
        have ac1 := (World.cell?_of_block (w := w1) (hmz.block _ (World.block_lt_of_cell? w1 _ c1) (fun q => q))).trans c1
        have ac2 := (World.cell?_of_block (w := w1) (hmz.block _ (World.block_lt_of_cell? w1 _ c2) (fun q => q))).trans c2
        have ac3 := (World.cell?_of_block (w := w1) (hmz.block _ (World.block_lt_of_cell? w1 _ c3) (fun q => q))).trans c3
        clear hmz
        clear hR1
        go_wp2_with fail
        go_region
        all_goals go_wp2
        all_goals refine bodyPost_ret (results_none rfl _ _ _) rfl ?_
        all_goals exact ⟨⟨_, rfl⟩, Mod.of_no ((HM1.out.alloc _).drew), HH.out.keptNo ((HM1.out.alloc _).drew)⟩
      · have d1 : decide (f.owner < 0) = false := decide_eq_false e1
        by_cases e2 : f.type = 2
        · have d2 : (f.type == 2) = true := beq_iff_eq.2 e2
          clear hal hbx hs h hx hp hc hpk hft hnX e2
          go_enter Try.func101, Try.ntmps101
          go_wp2_with fail
          go_quiet ((go_at_call 100; exact Calls.quiet_of_same (HI.out _)))
          have HM1 := Lib.hid (HAL.out.drewN nq)
          have z0 := (World.cell?_of_block (w := w) (HM1.out.block X hXl (fun q => q))).trans x0
          have z1 : ((w.alloc (.cells #[.int .i64 pa, .int .i64 (m : Int), .int .i64 po, .slice pq pbs.length pc] 77)).drewN nq).cell? ⟨w.heap.size, 1, none⟩ = some (.int .i64 m) := p1
          have z2 : ((w.alloc (.cells #[.int .i64 pa, .int .i64 (m : Int), .int .i64 po, .slice pq pbs.length pc] 77)).drewN nq).cell? ⟨w.heap.size, 2, none⟩ = some (.int .i64 po) := p2
          have z3 : ((w.alloc (.cells #[.int .i64 pa, .int .i64 (m : Int), .int .i64 po, .slice pq pbs.length pc] 77)).drewN nq).cell? ⟨w.heap.size, 3, none⟩ = some (.slice pq pbs.length pc) := p3
          clear x0 x0' p1 p2 p3 HI
          generalize (w.alloc (.cells #[.int .i64 pa, .int .i64 (m : Int), .int .i64 po, .slice pq pbs.length pc] 77)).drewN nq = w1 at HM1 z0 z1 z2 z3 ⊢
          have hR1 := HH.out.keptNo HM1.out
          obtain ⟨cF, hcF, hF0⟩ := hR1.cF
          have c0 := hR1.cH hf 0 (by omega)
          have c1 := hR1.cH hf 1 (by omega)
          have c2 := hR1.cH hf 2 (by omega)
          have c3 := hR1.cH hf 3 (by omega)
          simp only [Nat.add_zero, Fr.head, List.getElem?_cons_zero, List.getElem?_cons_succ] at c0 c1 c2 c3
          have hsz1 := HM1.out.size
          have hmz : Mod No w1 (w1.alloc (.cells #[.int .i64 0, .int .i64 0, .int .i64 0, .int .i64 0] 30)) := (Mod.refl No w1).alloc _
          have az0 := (World.cell?_of_block (w := w1) (hmz.block _ (World.block_lt_of_cell? w1 _ z0) (fun q => q))).trans z0
          have az1 := (World.cell?_of_block (w := w1) (hmz.block _ (World.block_lt_of_cell? w1 _ z1) (fun q => q))).trans z1
          have ahF0 := (World.cell?_of_block (w := w1) (hmz.block _ (World.block_lt_of_cell? w1 _ hF0) (fun q => q))).trans hF0
          have ac0 := (World.cell?_of_block (w := w1) (hmz.block _ (World.block_lt_of_cell? w1 _ c0) (fun q => q))).trans c0
          have ac1 := (World.cell?_of_block (w := w1) (hmz.block _ (World.block_lt_of_cell? w1 _ c1) (fun q => q))).trans c1
          have ac2 := (World.cell?_of_block (w := w1) (hmz.block _ (World.block_lt_of_cell? w1 _ c2) (fun q => q))).trans c2
          have ac3 := (World.cell?_of_block (w := w1) (hmz.block _ (World.block_lt_of_cell? w1 _ c3) (fun q => q))).trans c3
          clear hmz
          clear hR1
          go_wp2_with fail
          go_region
          all_goals go_wp2
          all_goals refine bodyPost_ret (results_none rfl _ _ _) rfl ?_
          all_goals exact ⟨⟨_, rfl⟩, Mod.of_no ((HM1.out.alloc _).drew), HH.out.keptNo ((HM1.out.alloc _).drew)⟩
        · have d2 : (f.type == 2) = false := beq_eq_false_iff_ne.2 e2
          have d3 : (f.type == 3) = true := by rw [beq_iff_eq]; omega
          clear hal hbx hs h hx hp hc hpk hft hnX e2
          go_enter Try.func101, Try.ntmps101
          go_wp2_with fail
          go_quiet ((go_at_call 100; exact Calls.quiet_of_same (HI.out _)))
          have HM1 := Lib.hid (HAL.out.drewN nq)
          have z0 := (World.cell?_of_block (w := w) (HM1.out.block X hXl (fun q => q))).trans x0
          have z1 : ((w.alloc (.cells #[.int .i64 pa, .int .i64 (m : Int), .int .i64 po, .slice pq pbs.length pc] 77)).drewN nq).cell? ⟨w.heap.size, 1, none⟩ = some (.int .i64 m) := p1
          have z2 : ((w.alloc (.cells #[.int .i64 pa, .int .i64 (m : Int), .int .i64 po, .slice pq pbs.length pc] 77)).drewN nq).cell? ⟨w.heap.size, 2, none⟩ = some (.int .i64 po) := p2
          have z3 : ((w.alloc (.cells #[.int .i64 pa, .int .i64 (m : Int), .int .i64 po, .slice pq pbs.length pc] 77)).drewN nq).cell? ⟨w.heap.size, 3, none⟩ = some (.slice pq pbs.length pc) := p3
          clear x0 x0' p1 p2 p3 HI
          generalize (w.alloc (.cells #[.int .i64 pa, .int .i64 (m : Int), .int .i64 po, .slice pq pbs.length pc] 77)).drewN nq = w1 at HM1 z0 z1 z2 z3 ⊢
          have hR1 := HH.out.keptNo HM1.out
          obtain ⟨cF, hcF, hF0⟩ := hR1.cF
          have c0 := hR1.cH hf 0 (by omega)
          have c1 := hR1.cH hf 1 (by omega)
          have c2 := hR1.cH hf 2 (by omega)
          have c3 := hR1.cH hf 3 (by omega)
          simp only [Nat.add_zero, Fr.head, List.getElem?_cons_zero, List.getElem?_cons_succ] at c0 c1 c2 c3
          have hsz1 := HM1.out.size
          have hmz : Mod No w1 (w1.alloc (.cells #[.int .i64 0, .int .i64 0, .int .i64 0, .int .i64 0] 30)) := (Mod.refl No w1).alloc _
          have az0 := (World.cell?_of_block (w := w1) (hmz.block _ (World.block_lt_of_cell? w1 _ z0) (fun q => q))).trans z0
          have az1 := (World.cell?_of_block (w := w1) (hmz.block _ (World.block_lt_of_cell? w1 _ z1) (fun q => q))).trans z1
          have ahF0 := (World.cell?_of_block (w := w1) (hmz.block _ (World.block_lt_of_cell? w1 _ hF0) (fun q => q))).trans hF0
          have ac0 := (World.cell?_of_block (w := w1) (hmz.block _ (World.block_lt_of_cell? w1 _ c0) (fun q => q))).trans c0
          have ac1 := (World.cell?_of_block (w := w1) (hmz.block _ (World.block_lt_of_cell? w1 _ c1) (fun q => q))).trans c1
          have ac2 := (World.cell?_of_block (w := w1) (hmz.block _ (World.block_lt_of_cell? w1 _ c2) (fun q => q))).trans c2
          have ac3 := (World.cell?_of_block (w := w1) (hmz.block _ (World.block_lt_of_cell? w1 _ c3) (fun q => q))).trans c3
          clear hmz
          clear hR1
          go_wp2_with fail
          go_region
          all_goals go_wp2
          all_goals refine bodyPost_ret (results_none rfl _ _ _) rfl ?_
          all_goals exact ⟨⟨_, rfl⟩, Mod.of_no ((HM1.out.alloc _).drew), HH.out.keptNo ((HM1.out.alloc _).drew)⟩
  · rw [poke_out (p := ⟨pa, pm, po, pq, pbs, pc⟩) hp]
    have HI : Hid (∀ n, Calls Try.prog 100 #[.pointer (some ⟨K.R, 0, none⟩), .int .i64 pm, .int .i64 po, .int .i64 pbs.length] ((w.alloc (.cells #[.int .i64 pa, .int .i64 pm, .int .i64 po, .slice pq pbs.length pc] 77)).drewN n) fun e w' => e = .returned (.bool false) ∧ w' = _) :=
      fun n => (rin_out pm po pbs.length _ (HH.out.keptNo (hal.drewN n)) hp).mono fun e w' q => ⟨q.1, q.2.symm⟩
    have HAL := Lib.hid hal
    clear hal hbx hs h hx hp
    go_enter Try.func101, Try.ntmps101
    go_wp2_with fail
    go_quiet ((go_at_call 100; exact Calls.quiet_of_same (HI.out _)))
    go_wp2
    refine bodyPost_ret (results_none rfl _ _ _) rfl ?_
    exact ⟨⟨_, rfl⟩, Mod.of_no (HAL.out.drewN _), HH.out.keptNo (HAL.out.drewN _)⟩

end Go.Proofs.Ythfkpbfapkpnfab
