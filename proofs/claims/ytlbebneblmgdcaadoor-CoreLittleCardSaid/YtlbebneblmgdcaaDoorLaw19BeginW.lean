/- tenementlaw19.begin: both machines, with tables and bytes: the walk. -/
import Derived.Test.YtlbebneblmgdcaaDoorLaw19Begin
import Derived.RegionTactic
import Derived.Deep.DeepCutAuto
import Derived.Deep.CutRange
import Derived.Deep.CutBlock
namespace Go.Proofs.YtlbebneblmgdcaaDoor
open Go.RowKit
set_option maxRecDepth 100000

theorem tab_made (wr : World) : Mod No wr (((wr.alloc (.cells #[.int .u8 1, .int .u8 1, .int .u8 0, .int .u8 0] 5)).alloc (.cells #[.int .u8 3, .int .u8 2, .int .u8 0, .int .u8 0, .int .u8 1, .int .u8 3, .int .u8 0, .int .u8 0, .int .u8 3, .int .u8 4, .int .u8 0, .int .u8 0, .int .u8 3, .int .u8 5, .int .u8 0, .int .u8 0] 5)).alloc (.cells #[.int .i64 0, .int .i64 0, .slice (some ⟨wr.heap.size, 0, none⟩) 4 4, .int .i64 1, .int .i64 0, .slice (some ⟨wr.heap.size + 1, 0, none⟩) 16 16] 59)) ∧ (((wr.alloc (.cells #[.int .u8 1, .int .u8 1, .int .u8 0, .int .u8 0] 5)).alloc (.cells #[.int .u8 3, .int .u8 2, .int .u8 0, .int .u8 0, .int .u8 1, .int .u8 3, .int .u8 0, .int .u8 0, .int .u8 3, .int .u8 4, .int .u8 0, .int .u8 0, .int .u8 3, .int .u8 5, .int .u8 0, .int .u8 0] 5)).alloc (.cells #[.int .i64 0, .int .i64 0, .slice (some ⟨wr.heap.size, 0, none⟩) 4 4, .int .i64 1, .int .i64 0, .slice (some ⟨wr.heap.size + 1, 0, none⟩) 16 16] 59)).heap[wr.heap.size]? = some (.cells (tabA.map (Value.int .u8)).toArray 5 (0, 0)) ∧ (((wr.alloc (.cells #[.int .u8 1, .int .u8 1, .int .u8 0, .int .u8 0] 5)).alloc (.cells #[.int .u8 3, .int .u8 2, .int .u8 0, .int .u8 0, .int .u8 1, .int .u8 3, .int .u8 0, .int .u8 0, .int .u8 3, .int .u8 4, .int .u8 0, .int .u8 0, .int .u8 3, .int .u8 5, .int .u8 0, .int .u8 0] 5)).alloc (.cells #[.int .i64 0, .int .i64 0, .slice (some ⟨wr.heap.size, 0, none⟩) 4 4, .int .i64 1, .int .i64 0, .slice (some ⟨wr.heap.size + 1, 0, none⟩) 16 16] 59)).heap[wr.heap.size + 1]? = some (.cells (tabB.map (Value.int .u8)).toArray 5 (0, 0)) ∧
    (((wr.alloc (.cells #[.int .u8 1, .int .u8 1, .int .u8 0, .int .u8 0] 5)).alloc (.cells #[.int .u8 3, .int .u8 2, .int .u8 0, .int .u8 0, .int .u8 1, .int .u8 3, .int .u8 0, .int .u8 0, .int .u8 3, .int .u8 4, .int .u8 0, .int .u8 0, .int .u8 3, .int .u8 5, .int .u8 0, .int .u8 0] 5)).alloc (.cells #[.int .i64 0, .int .i64 0, .slice (some ⟨wr.heap.size, 0, none⟩) 4 4, .int .i64 1, .int .i64 0, .slice (some ⟨wr.heap.size + 1, 0, none⟩) 16 16] 59)).ownsRow wr.heap.size 59 3 (.slice (some ⟨wr.heap.size + 1 + 1, 0, none⟩) 2 2) 2 (pCells (tabK wr.heap.size (wr.heap.size + 1))) ∧ (((wr.alloc (.cells #[.int .u8 1, .int .u8 1, .int .u8 0, .int .u8 0] 5)).alloc (.cells #[.int .u8 3, .int .u8 2, .int .u8 0, .int .u8 0, .int .u8 1, .int .u8 3, .int .u8 0, .int .u8 0, .int .u8 3, .int .u8 4, .int .u8 0, .int .u8 0, .int .u8 3, .int .u8 5, .int .u8 0, .int .u8 0] 5)).alloc (.cells #[.int .i64 0, .int .i64 0, .slice (some ⟨wr.heap.size, 0, none⟩) 4 4, .int .i64 1, .int .i64 0, .slice (some ⟨wr.heap.size + 1, 0, none⟩) 16 16] 59)).heap.size = wr.heap.size + 3 := by
  refine ⟨by repeat (first | exact Mod.refl _ _ | apply Mod.alloc), blk_alloc (blk_alloc (heap_alloc_new wr _) _) _, ?_, ?_, ?_⟩
  · have := blk_alloc (heap_alloc_new (wr.alloc (.cells #[.int .u8 1, .int .u8 1, .int .u8 0, .int .u8 0] 5)) (.cells #[.int .u8 3, .int .u8 2, .int .u8 0, .int .u8 0, .int .u8 1, .int .u8 3, .int .u8 0, .int .u8 0, .int .u8 3, .int .u8 4, .int .u8 0, .int .u8 0, .int .u8 3, .int .u8 5, .int .u8 0, .int .u8 0] 5)) ((.cells #[.int .i64 0, .int .i64 0, .slice (some ⟨wr.heap.size, 0, none⟩) 4 4, .int .i64 1, .int .i64 0, .slice (some ⟨wr.heap.size + 1, 0, none⟩) 16 16] 59))
    rwa [World.size_alloc] at this
  · have := World.ownsRow_lit (base := wr.heap.size) (e := 59) (size := 3) ((wr.alloc (.cells #[.int .u8 1, .int .u8 1, .int .u8 0, .int .u8 0] 5)).alloc (.cells #[.int .u8 3, .int .u8 2, .int .u8 0, .int .u8 0, .int .u8 1, .int .u8 3, .int .u8 0, .int .u8 0, .int .u8 3, .int .u8 4, .int .u8 0, .int .u8 0, .int .u8 3, .int .u8 5, .int .u8 0, .int .u8 0] 5)) #[.int .i64 0, .int .i64 0, .slice (some ⟨wr.heap.size, 0, none⟩) 4 4, .int .i64 1, .int .i64 0, .slice (some ⟨wr.heap.size + 1, 0, none⟩) 16 16] 2 (by rw [World.size_alloc, World.size_alloc]; omega) (by decide) rfl
    rwa [World.size_alloc, World.size_alloc] at this
  · rw [World.size_alloc, World.size_alloc, World.size_alloc]

set_option maxHeartbeats 8000000 in
theorem begin19_in (p : Option Addr) (ops : List KPut) (cap : Nat) (w : World) (hs : KPutS w p ops) (hlen : ops.length * 40 ≤ 140737488355328) (hnil : p = none → cap = 0) :
    Calls Tryd.prog 5 #[.slice p ops.length cap] w fun e w' => ∃ B F K, e = .returned (.tuple #[.pointer (some ⟨B, 0, none⟩), .pointer (some ⟨K.R, 0, none⟩), .bool true]) ∧ RoundS w B F 6 0 K (begS ops) w' := by
  have HS := Lib.hid hs; clear hs
  have HNI := Lib.hid hnil; clear hnil
  go_enter Tryd.func5, Tryd.ntmps5
  go_wp2_with fail
  refine (new_in 6 _ (by omega) (by omega)).mono ?_
  rintro e w1 ⟨B, F, rfl, hB, hF, hm1, hP1⟩
  go_wp2_with fail
  refine (rnew_in 6 _ (by omega) (by omega)).mono ?_
  rintro e w2 ⟨K0, rfl, hK, hm2, hR2⟩
  have hm12 := hm1.trans hm2
  have hs1 := hm1.size
  have h0 : RoundS w B F 6 0 K0 (upTo 6 0) w2 := by
    have e : upTo 6 0 = List.replicate 6 freeFr := by simp [upTo]
    rw [e]
    exact ⟨⟨hP1.kept hm2 (fun q => q) (fun q => q), hR2, invS_new _ _⟩, by simp, hm12, hF, fun k hk => by have := hK k hk; omega⟩
  obtain ⟨R0, hR0⟩ : ∃ R0, R0 = K0.R := ⟨_, rfl⟩
  rw [← hR0]
  have HR0 := Lib.hid hR0
  have H0 := Lib.hid h0
  clear hR0 h0 hP1 hR2 hm1 hm2 hm12 hK hB hF
  go_wp2_with fail
  go_loopw [9] (fun v wr => ∃ i : Nat, i ≤ 6 ∧ v = .int .i64 i ∧ ∃ K, RoundS w B F 6 0 K (upTo 6 i) wr ∧ K.R = R0) (fun v _ => 6 - (intOf v).toNat)
  case atStart => exact ⟨0, Nat.zero_le _, rfl, K0, H0.out, HR0.out.symm⟩
  case round =>
    obtain ⟨i, hi, rfl, K, hrd, hKR⟩ := hrel
    by_cases hlt : i < 6
    · have hlt' : (i : Int) < 6 := by omega
      obtain ⟨hA, hRA⟩ := upTo_alloc hlt
      have HA := Lib.hid (hA wr B F hrd.two.p)
      have hq : ∀ w3, Mod (One F) wr w3 → Calls Tryd.prog 14 #[.pointer (some ⟨K.R, 0, none⟩), .int .i64 0] w3 (ROut K (.tuple #[.int .i64 i, .int .i64 0]) (upTo 6 (i + 1)) w3) :=
        fun w3 hm => hRA w3 K (hrd.two.r.kept hm (fun k hk (e : k = F) => (hrd.two.r.ne_phys hrd.two.p).2 (e ▸ hk)))
      rw [hKR] at hq
      have HQ := Lib.hid hq
      have HRD := Lib.hid hrd
      have HKR := Lib.hid hKR
      clear hA hRA hq hrd hKR
      go_wp2_with fail
      refine HA.out.mono ?_
      rintro e w3 hpo
      have HPO := Lib.hid hpo
      obtain ⟨rfl, hm3, _⟩ := hpo
      go_wp2_with fail
      refine (HQ.out _ hm3).mono ?_
      rintro e w4 hro
      obtain ⟨K', hrd', hK'⟩ := HRD.out.pair (Mod.refl No wr) HPO.out hro (invS_upTo 0 6 (i + 1)) (by rw [upTo_len (by omega), upTo_len (by omega)])
      obtain ⟨_, rfl, _⟩ := hro
      have HRD' := Lib.hid hrd'
      have HK' := Lib.hid (hK'.trans HKR.out)
      clear hm3 HPO HQ HA hrd' hK'
      go_wp2
      go_roundw
      case rel => exact ⟨i + 1, by omega, by go_num, K', HRD'.out, HK'.out⟩
      case measure => simp [intOf]; omega
    · obtain rfl : i = 6 := by omega
      have HRD := Lib.hid hrd
      have HKR := Lib.hid hKR
      clear hrd hKR H0 HR0
      go_upto_region 11 with (fail)
      have htab := tab_made wr
      have hF1 : F < wr.heap.size := HRD.out.two.p.ltF
      have hK1 : ∀ k, K.has k → k < wr.heap.size := HRD.out.two.r.lt
      have hw1 : w.heap.size ≤ wr.heap.size := HRD.out.mod.size
      generalize (((wr.alloc (.cells #[.int .u8 1, .int .u8 1, .int .u8 0, .int .u8 0] 5)).alloc (.cells #[.int .u8 3, .int .u8 2, .int .u8 0, .int .u8 0, .int .u8 1, .int .u8 3, .int .u8 0, .int .u8 0, .int .u8 3, .int .u8 4, .int .u8 0, .int .u8 0, .int .u8 3, .int .u8 5, .int .u8 0, .int .u8 0] 5)).alloc (.cells #[.int .i64 0, .int .i64 0, .slice (some ⟨wr.heap.size, 0, none⟩) 4 4, .int .i64 1, .int .i64 0, .slice (some ⟨wr.heap.size + 1, 0, none⟩) 16 16] 59)) = w3 at htab ⊢
      generalize hgC : wr.heap.size + 1 + 1 = gC at htab ⊢
      generalize hgB : wr.heap.size + 1 = gB at htab ⊢
      have HTAB := Lib.hid htab
      have hs3 : wr.heap.size + 3 = w3.heap.size := htab.2.2.2.2.symm
      clear htab
      have hsw : KPutS w3 p ops := HS.out.kept (HRD.out.mod.trans HTAB.out.1)
      obtain ⟨_, _, _, hown, _⟩ := HTAB.out
      go_wp2_with (at_builtin; refine append19 rfl _ _ rfl wr.heap.size gC (tabK wr.heap.size gB) ops p cap 2 rfl hown rfl hsw hlen HNI.out (by omega) ?_; intro v' wA hownA hmA; have HOA := Lib.hid hownA; have HMA := Lib.hid hmA; clear hownA hmA hown hsw)
      rw [Nat.add_comm 2 ops.length] at HOA
      obtain ⟨g', cap', rfl⟩ := ownsRow_succ HOA.out
      have HOA2 := HOA.out
      rw [Nat.add_comm ops.length 2] at HOA2
      have hbw := begW_made HRD.out HS.out HTAB.out.1 HTAB.out.2.1 HTAB.out.2.2.1 hgB hgC (by rw [Nat.add_comm 2 ops.length]; exact HOA.out) HMA.out
      have HBW := Lib.hid hbw.1
      have HRA := Lib.hid hbw.2
      have hlL : (tabK wr.heap.size gB ++ ops).length = ops.length + 2 := by simp [tabK]
      generalize hLd : tabK wr.heap.size gB ++ ops = L at HBW hlL
      have HLD := Lib.hid hLd
      have HFO : Hid (L.foldl KPut.on (upTo 6 6) = begS ops) := by rw [← HLD.out]; exact Lib.hid (tabK_fold _ _ _)
      clear hbw HOA HOA2 HTAB HMA HRD hLd HLD hs3 hgB hgC hF1 hK1 hw1
      go_wp2_with fail
      go_loopw [11] (fun v wr => ∃ k : Nat, k ≤ ops.length + 2 ∧ v = .int .i64 k ∧ ∃ K2, RoundS w B F 6 0 K2 ((L.take k).foldl KPut.on (upTo 6 6)) wr ∧ K2.R = R0 ∧ (∀ x, K2.has x → K.has x ∨ wA.heap.size ≤ x) ∧ Mod (fun x => x = F ∨ K.has x) wA wr) (fun v _ => ops.length + 2 - (intOf v).toNat)
      case atStart => exact ⟨0, Nat.zero_le _, rfl, K, HRA.out, HKR.out, fun x q => .inl q, Mod.refl _ _⟩
      case round =>
        clear HRA HKR
        obtain ⟨k, hk, rfl, K2, hrd, hKR, hKA, hmA⟩ := hrel
        by_cases hlt : k < ops.length + 2
        · have hlt' : (k : Int) < (ops.length : Int) + 2 := by omega
          obtain ⟨o, ho⟩ : ∃ o, L[k]? = some o := ⟨_, List.getElem?_eq_getElem (by omega)⟩
          have hst := step_to ho (upTo 6 6)
          obtain ⟨hcells, hby, hbb, hgF⟩ := begW_round HBW.out hKA hmA ho
          obtain ⟨hI', r, hW, hRW⟩ := both_wr 0 ((L.take k).foldl KPut.on (upTo 6 6)) o.frame o.off o.bs hby.range hrd.two.inv
          have hl' : (o.on ((L.take k).foldl KPut.on (upTo 6 6))).length = ((L.take k).foldl KPut.on (upTo 6 6)).length := on_len _ _
          have HST := Lib.hid hst
          have HI' : Hid (invS 0 (o.on ((L.take k).foldl KPut.on (upTo 6 6)))) := hI'
          have HL' := Lib.hid hl'
          have HKA := Lib.hid hKA
          have HMA := Lib.hid hmA
          have HC : Hid (∀ w', Mod (fun x => x = F ∨ K2.has x) wr w' → w'.cell? ⟨g', k * 3, none⟩ = some (.int .i64 o.frame) ∧ w'.cell? ⟨g', k * 3 + 1, none⟩ = some (.int .i64 o.off) ∧ w'.cell? ⟨g', k * 3 + 2, none⟩ = some (.slice o.bq o.bs.length o.bc)) := fun w' hm => ⟨(World.cell?_of_block (w := wr) (hm.block g' (World.block_lt_of_cell? wr _ hcells.1) (fun q => q.elim hgF.1 hgF.2))).trans hcells.1, (World.cell?_of_block (w := wr) (hm.block g' (World.block_lt_of_cell? wr _ hcells.1) (fun q => q.elim hgF.1 hgF.2))).trans hcells.2.1, (World.cell?_of_block (w := wr) (hm.block g' (World.block_lt_of_cell? wr _ hcells.1) (fun q => q.elim hgF.1 hgF.2))).trans hcells.2.2⟩
          have HW : Hid (∀ w', Mod No wr w' → Calls Tryd.prog 15 #[.pointer (some ⟨B, 0, none⟩), .int .i64 o.frame, .int .i64 o.off, .slice o.bq o.bs.length o.bc] w' (POut B F (.int .i64 r) (o.on ((L.take k).foldl KPut.on (upTo 6 6))) w')) :=
            fun w' hm => hW w' B F o.bq o.bc (hrd.two.p.kept hm (fun q => q) (fun q => q)) (hby.kept hm).src
          have hq : ∀ w3, Mod (One F) wr w3 → Calls Tryd.prog 16 #[.pointer (some ⟨K2.R, 0, none⟩), .int .i64 o.frame, .int .i64 o.off, .slice o.bq o.bs.length o.bc] w3 (ROut K2 (.int .i64 r) (o.on ((L.take k).foldl KPut.on (upTo 6 6))) w3) := by
            intro w3 hm
            refine hRW w3 K2 o.bq o.bc (hrd.two.r.kept hm (fun k hk (e : k = F) => (hrd.two.r.ne_phys hrd.two.p).2 (e ▸ hk))) (fun h0 => ?_)
            have hb3 := hby.keptQ hm (fun b off h0 e => (hbb b off h0 e).1)
            obtain ⟨b, off, e, _, hc⟩ := hb3.at_ h0
            exact ⟨b, off, e, fun q => (hbb b off h0 e).2 (RfK.inn_has q), hb3.fit, hc⟩
          rw [hKR] at hq
          have HQ := Lib.hid hq
          have HRD := Lib.hid hrd
          have HKR := Lib.hid hKR
          have hS1 := HC.out wr (Mod.refl _ _)
          obtain ⟨x0, x1, x2⟩ := hS1
          have hS1 := HC.out wr (Mod.refl _ _)
          clear hW hRW hq hrd hKR hI' hl' hst hcells hby hbb hgF ho hKA hmA
          generalize o.on ((L.take k).foldl KPut.on (upTo 6 6)) = S' at HW HQ HI' HL' HST
          obtain ⟨fr, of, bq, bs, bc⟩ := o
          dsimp only at HW HQ HC x0 x1 x2 hS1
          generalize bs.length = bl at HW HQ HC x0 x1 x2 hS1
          go_upto_region 15 with (fail)
          go_region_held3 (fun w' : World => w'.cell? ⟨g', k * 3, none⟩ = some (.int .i64 fr) ∧ w'.cell? ⟨g', k * 3 + 1, none⟩ = some (.int .i64 of) ∧ w'.cell? ⟨g', k * 3 + 2, none⟩ = some (.slice bq bl bc)) (first | exact hS1 | assumption) ((go_at_call 15; refine (HW.out _ ((Mod.refl No wr).drew)).mono ?_; rintro e w3 hpo; have HPO := Lib.hid hpo; obtain ⟨rfl, hm3, _⟩ := hpo; have hS2 : (fun w' : World => w'.cell? ⟨g', k * 3, none⟩ = some (.int .i64 fr) ∧ w'.cell? ⟨g', k * 3 + 1, none⟩ = some (.int .i64 of) ∧ w'.cell? ⟨g', k * 3 + 2, none⟩ = some (.slice bq bl bc)) w3 := HC.out w3 (((Mod.refl (One F) wr).drew.trans hm3).mono (fun _ _ q => .inl q)); have HM3 : Hid (Mod (One F) wr w3) := (Mod.refl (One F) wr).drew.trans hm3; clear hm3))
          obtain ⟨y0, y1, y2⟩ := hS2
          have hS2 := HC.out w3 (HM3.out.mono (fun _ _ q => .inl q))
          clear x0 x1 x2 hS1
          go_upto_region 16 with (fail)
          go_region_held3 (fun w' : World => w'.cell? ⟨g', k * 3, none⟩ = some (.int .i64 fr) ∧ w'.cell? ⟨g', k * 3 + 1, none⟩ = some (.int .i64 of) ∧ w'.cell? ⟨g', k * 3 + 2, none⟩ = some (.slice bq bl bc)) (first | exact hS2 | assumption) ((go_at_call 16; refine (HQ.out _ (HM3.out.drew)).mono ?_; rintro e w4 hro; have HRO := Lib.hid hro; obtain ⟨K', rfl, hm4, _, _⟩ := hro; have hS3 : (fun w' : World => w'.cell? ⟨g', k * 3, none⟩ = some (.int .i64 fr) ∧ w'.cell? ⟨g', k * 3 + 1, none⟩ = some (.int .i64 of) ∧ w'.cell? ⟨g', k * 3 + 2, none⟩ = some (.slice bq bl bc)) w4 := HC.out w4 (((HM3.out.mono (fun _ _ q => .inl q)).drew).trans (hm4.mono (fun _ _ q => .inr (RfK.inn_has q)))); clear hm4))
          have hpo' : POut B F (.int .i64 r) S' wr.drew (.returned (.int .i64 r)) w3.drew := ⟨rfl, HPO.out.2.1.drew, HPO.out.2.2.kept ((Mod.refl No w3).drew) (fun q => q) (fun q => q)⟩
          obtain ⟨K3, hrd3, hK3, hg3, hm3⟩ := HRD.out.pair2 ((Mod.refl No wr).drew) hpo' HRO.out HI'.out HL'.out
          have HFIN : Hid (RoundS w B F 6 0 K3 ((L.take (k + 1)).foldl KPut.on (upTo 6 6)) w4 ∧ K3.R = R0 ∧ (∀ x, K3.has x → K.has x ∨ wA.heap.size ≤ x) ∧ Mod (fun x => x = F ∨ K.has x) wA w4) := by
            refine ⟨by rw [HST.out]; exact hrd3, hK3.trans HKR.out, fun x q => ?_, HMA.out.step hm3 (fun i hi q => ?_)⟩
            · have := HMA.out.size
              rcases hg3 x q with q | q
              · exact HKA.out x q
              · exact .inr (by omega)
            · rcases q with q | q
              · exact .inl q
              · rcases HKA.out i q with q | q
                · exact .inr q
                · omega
          clear hpo' hrd3 hK3 hg3 hm3 y0 y1 y2 hS2 hS3 HC HW HQ HST HKA HMA HRD HKR HI' HL' HPO HRO
          go_wp2_with fail
          go_roundw
          case rel => exact ⟨k + 1, by omega, by go_num, K3, HFIN.out⟩
          case measure => simp [intOf]; omega
        · obtain rfl : k = ops.length + 2 := by omega
          have HRD := Lib.hid hrd
          have HKR := Lib.hid hKR
          clear hrd hKR hKA hmA
          go_wp2
          go_ret3
          refine ⟨B, F, K2, by rw [HKR.out]; rfl, ?_⟩
          have := HRD.out
          rw [← hlL, List.take_length, HFO.out] at this
          exact this

end Go.Proofs.YtlbebneblmgdcaaDoor
