/- CoreLittle: a step does little; the walk. (Printed by wip/gen_little.py.) -/
import Derived.Test.YtlbebneblmgdcaaDoorCoreRun
import Derived.Test.YtlbebneblmgdcaaDoorCoreLittleP
import Derived.Test.YtlbebneblmgdcaaDoorLaw19Writ
import Derived.Test.YtlbebneblmgdcaaDoorLaw19BeginW
import Derived.Test.YtlbebneblmgdcaaDoorCoreText
import Derived.Test.YtlbebneblmgdcaaDoorPhysH
namespace Go.Proofs.YtlbebneblmgdcaaDoor
open Go.RowKit
set_option maxRecDepth 100000

theorem regs_at {w : World} {b : Nat} {r0 r1 r2 r3 r4 r5 r6 r7 r8 : Int} (h : w.heap[b]? = some (.cells ([.int .u32 r0, .int .u32 r1, .int .u32 r2, .int .u32 r3, .int .u32 r4, .int .u32 r5, .int .u32 r6, .int .u32 r7, .int .u32 r8] : List Value).toArray 26 (0, 0))) {k : Nat} (hk : k < 8) : w.cell? ⟨b, k, none⟩ = some (.int .u32 ([r0, r1, r2, r3, r4, r5, r6, r7].getD k 0)) := by
  rw [row_cell h]
  rcases (show k = 0 ∨ k = 1 ∨ k = 2 ∨ k = 3 ∨ k = 4 ∨ k = 5 ∨ k = 6 ∨ k = 7 by omega) with rfl | rfl | rfl | rfl | rfl | rfl | rfl | rfl <;> rfl
theorem laid3 (w1 : World) (q0 q1 q2 q3 q4 q5 q6 q7 q8 sk sc s1 s2 s3 s4 s5 sy : Int) :
    Mod No w1 ((w1.alloc (.cells #[.int .u32 q0, .int .u32 q1, .int .u32 q2, .int .u32 q3, .int .u32 q4, .int .u32 q5, .int .u32 q6, .int .u32 q7, .int .u32 q8] 26)).alloc (.cells #[.int .i64 sk, .int .u32 sc, .int .u32 s1, .int .u32 s2, .int .u32 s3, .int .u32 s4, .int .u32 s5, .int .i64 sy] 34)) ∧ ((w1.alloc (.cells #[.int .u32 q0, .int .u32 q1, .int .u32 q2, .int .u32 q3, .int .u32 q4, .int .u32 q5, .int .u32 q6, .int .u32 q7, .int .u32 q8] 26)).alloc (.cells #[.int .i64 sk, .int .u32 sc, .int .u32 s1, .int .u32 s2, .int .u32 s3, .int .u32 s4, .int .u32 s5, .int .i64 sy] 34)).heap[w1.heap.size]? = some (.cells ([.int .u32 q0, .int .u32 q1, .int .u32 q2, .int .u32 q3, .int .u32 q4, .int .u32 q5, .int .u32 q6, .int .u32 q7, .int .u32 q8] : List Value).toArray 26 (0, 0)) ∧ ((w1.alloc (.cells #[.int .u32 q0, .int .u32 q1, .int .u32 q2, .int .u32 q3, .int .u32 q4, .int .u32 q5, .int .u32 q6, .int .u32 q7, .int .u32 q8] 26)).alloc (.cells #[.int .i64 sk, .int .u32 sc, .int .u32 s1, .int .u32 s2, .int .u32 s3, .int .u32 s4, .int .u32 s5, .int .i64 sy] 34)).heap[w1.heap.size + 1]? = some (.cells ([.int .i64 sk, .int .u32 sc, .int .u32 s1, .int .u32 s2, .int .u32 s3, .int .u32 s4, .int .u32 s5, .int .i64 sy] : List Value).toArray 34 (0, 0)) := by
  refine ⟨((Mod.refl No w1).alloc _).alloc _, blk_alloc (heap_alloc_new w1 _) _, ?_⟩
  have := heap_alloc_new (w1.alloc (.cells #[.int .u32 q0, .int .u32 q1, .int .u32 q2, .int .u32 q3, .int .u32 q4, .int .u32 q5, .int .u32 q6, .int .u32 q7, .int .u32 q8] 26)) (.cells #[.int .i64 sk, .int .u32 sc, .int .u32 s1, .int .u32 s2, .int .u32 s3, .int .u32 s4, .int .u32 s5, .int .i64 sy] 34)
  rwa [World.size_alloc] at this
theorem chAt_of {S T : List Fr} {i : Nat} {f g : Fr} (hf : S[i]? = some f) (hg : T[i]? = some g) (n : Nat) : chAt S T i n = chF f g n := by
  unfold chAt
  rw [List.getD_eq_getElem?_getD, List.getD_eq_getElem?_getD, hf, hg]
  rfl
theorem chF_le (f g : Fr) : ∀ n, chF f g n ≤ n
  | 0 => Nat.le_refl _
  | n + 1 => by rw [chF]; have := chF_le f g n; split <;> omega
theorem chS_le (S T : List Fr) : ∀ n, chS S T n ≤ 256 * n
  | 0 => Nat.le_refl _
  | n + 1 => by rw [chS, chAt]; have := chS_le S T n; have := chF_le (S.getD n freeFr) (T.getD n freeFr) 256; omega
theorem cntR_le (R R' : List Int) : ∀ n, cntR R R' n ≤ n
  | 0 => Nat.le_refl _
  | n + 1 => by rw [cntR]; have := cntR_le R R' n; split <;> omega

set_option maxHeartbeats 16000000 in
theorem little_any (p : Option Addr) (ops : List KPut) (cap : Nat) (r0 r1 r2 r3 r4 r5 r6 r7 r8 : Int) (w : World) (hs : KPutS w p ops) (hlen : ops.length * 40 ≤ 140737488355328) (hnil : p = none → cap = 0) (h8 : regOk r8) (hreg : regsIn [r0, r1, r2, r3, r4, r5, r6, r7]) :
    Calls Tryd.prog 3 #[.slice p ops.length cap, .agg #[.int .u32 r0, .int .u32 r1, .int .u32 r2, .int .u32 r3, .int .u32 r4, .int .u32 r5, .int .u32 r6, .int .u32 r7, .int .u32 r8]] w fun e w' => e = .returned (.bool true) ∧ Mod No w w' := by
  have hS6 : (begS ops).length = 6 := by unfold begS; rw [fold_len, tabS_len]
  have HST : Hid (∀ (w' : World) (B F : Nat), PhM w' B F (begS ops) → Calls Tryd.prog 6 #[.pointer (some ⟨B, 0, none⟩), .int .i64 0, .agg #[.int .u32 r0, .int .u32 r1, .int .u32 r2, .int .u32 r3, .int .u32 r4, .int .u32 r5, .int .u32 r6, .int .u32 r7, .int .u32 r8]] w' (StepPost B F (stepR (begS ops) 0 [r0, r1, r2, r3, r4, r5, r6, r7] r8) w')) :=
    Lib.hid (fun w' B F hp => step_any 0 r0 r1 r2 r3 r4 r5 r6 r7 r8 w' hp h8 hreg.2)
  have HOKS := Lib.hid (fun (m n : Nat) (hS : okS (begS ops)) (hI : invS m (begS ops)) (hl : (begS ops).length = n) => (stepR_ok hS hI hl 0 hreg h8).1)
  have HLT := Lib.hid (fun (hS : okS (begS ops)) => step_little hS [r0, r1, r2, r3, r4, r5, r6, r7] r8)
  have HS := Lib.hid hs
  have HNI := Lib.hid hnil
  clear hs hnil h8 hreg
  go_enter Tryd.func3, Tryd.ntmps3
  go_upto_region 1 with (fail)
  have h3 : (w.alloc (.cells #[.int .u32 r0, .int .u32 r1, .int .u32 r2, .int .u32 r3, .int .u32 r4, .int .u32 r5, .int .u32 r6, .int .u32 r7, .int .u32 r8] 26)).heap[w.heap.size]? = some (.cells ([.int .u32 r0, .int .u32 r1, .int .u32 r2, .int .u32 r3, .int .u32 r4, .int .u32 r5, .int .u32 r6, .int .u32 r7, .int .u32 r8] : List Value).toArray 26 (0, 0)) := heap_alloc_new w _
  have hm0 : Mod No w (w.alloc (.cells #[.int .u32 r0, .int .u32 r1, .int .u32 r2, .int .u32 r3, .int .u32 r4, .int .u32 r5, .int .u32 r6, .int .u32 r7, .int .u32 r8] 26)) := (Mod.refl No w).alloc _
  generalize (w.alloc (.cells #[.int .u32 r0, .int .u32 r1, .int .u32 r2, .int .u32 r3, .int .u32 r4, .int .u32 r5, .int .u32 r6, .int .u32 r7, .int .u32 r8] 26)) = w1 at h3 hm0 ⊢
  generalize hb3 : w.heap.size = b3 at h3 ⊢
  have H3 := Lib.hid h3
  have HM0 := Lib.hid hm0
  have HB3 := Lib.hid hb3
  clear h3 hm0 hb3
  go_wp2_with fail
  refine (begin19_in p ops cap w1 (HS.out.kept HM0.out) hlen HNI.out).mono ?_
  rintro e w3 ⟨B, F, K, rfl, hrd⟩
  have hst := HST.out w3 B F hrd.two.p
  have hlt := HLT.out hrd.two.p.ok
  have hok := HOKS.out 0 6 hrd.two.p.ok hrd.two.inv hS6
  have HP3 := Lib.hid hrd.two.p
  have HR3 := Lib.hid hrd.two.r
  have H33 := Lib.hid (hrd.mod.blk H3.out (fun q => q))
  have HM3 := Lib.hid (HM0.out.trans hrd.mod)
  have HNB : Hid (b3 ≠ F ∧ w.heap.size ≤ F ∧ b3 < w3.heap.size) := ⟨fun q => by have := hrd.F; have := lt_of_blk H3.out; omega, Nat.le_trans HM0.out.size hrd.F, lt_of_blk H33.out⟩
  clear hrd HST HLT HOKS HS HNI H3 HM0 hlen
  generalize begS ops = S0 at hst hlt hok HP3 HR3 hS6
  generalize stepR S0 0 [r0, r1, r2, r3, r4, r5, r6, r7] r8 = o1 at hst hlt hok
  obtain ⟨R1, q8, ⟨sk, sc, s1, s2, s3, s4, s5, sy⟩, S1⟩ := o1
  obtain ⟨q0, q1, q2, q3, q4, q5, q6, q7, hR1⟩ := list8 hok.regs.1
  dsimp only at hR1
  subst hR1
  have HSTP := Lib.hid hst
  have hone := hlt.1.one
  have HLIT := Lib.hid hlt
  have HL1 : Hid (S1.length = 6) := hok.len
  have HONE : Hid (cntR [r0, r1, r2, r3, r4, r5, r6, r7] [q0, q1, q2, q3, q4, q5, q6, q7] 8 ≤ 1) := hone
  have HS6 := Lib.hid hS6
  clear hst hlt hok hone hS6
  have x0 := row_cell H33.out 0
  have x1 := row_cell H33.out 1
  have x2 := row_cell H33.out 2
  have x3 := row_cell H33.out 3
  have x4 := row_cell H33.out 4
  have x5 := row_cell H33.out 5
  have x6 := row_cell H33.out 6
  have x7 := row_cell H33.out 7
  have x8 := row_cell H33.out 8
  simp only [List.getElem?_cons_zero, List.getElem?_cons_succ] at x0 x1 x2 x3 x4 x5 x6 x7 x8
  go_upto_region 5 with (go_at_call 6; refine HSTP.out.mono ?_; rintro e w4 ⟨rfl, hm4, hp4⟩; dsimp only [cpuV, Stp.L, stopL, List.map_cons, List.map_nil, List.cons_append, List.nil_append]; have HP4 := Lib.hid hp4; have HM4 := Lib.hid hm4; clear hm4 hp4)
  have hld := laid3 w4 q0 q1 q2 q3 q4 q5 q6 q7 q8 sk sc s1 s2 s3 s4 s5 sy
  generalize ((w4.alloc (.cells #[.int .u32 q0, .int .u32 q1, .int .u32 q2, .int .u32 q3, .int .u32 q4, .int .u32 q5, .int .u32 q6, .int .u32 q7, .int .u32 q8] 26)).alloc (.cells #[.int .i64 sk, .int .u32 sc, .int .u32 s1, .int .u32 s2, .int .u32 s3, .int .u32 s4, .int .u32 s5, .int .i64 sy] 34)) = w5 at hld ⊢
  generalize w4.heap.size + 1 = b9 at hld ⊢
  generalize w4.heap.size = b8 at hld ⊢
  obtain ⟨hm5, h85, h95⟩ := hld
  have HR5 : Hid (RfM w5 K S0) := (HR3.out.kept HM4.out (fun k hk (e : k = F) => (HR3.out.ne_phys HP3.out).2 (e ▸ hk))).keptNo hm5
  have HP5 : Hid (PhM w5 B F S1) := HP4.out.kept hm5 (fun q => q) (fun q => q)
  have H35 := Lib.hid (hm5.blk (HM4.out.blk H33.out HNB.out.1) (fun q => q))
  have HM5 : Hid (Mod No w w5) := (HM3.out.step HM4.out (fun i hi q => by have q' : i = F := q; have := HNB.out.2.1; omega)).trans hm5
  have H85 := Lib.hid h85
  have H95 := Lib.hid h95
  clear hm5 h85 h95 HSTP HP4 HM4 HM3 HP3 HR3 H33 HNB HB3 x0 x1 x2 x3 x4 x5 x6 x7 x8
  go_wp2_with fail
  go_loopw [10, 11] (fun vc v wr => ∃ i : Nat, i ≤ 8 ∧ v = .int .i64 i ∧ vc = .int .i64 (cntR [r0, r1, r2, r3, r4, r5, r6, r7] [q0, q1, q2, q3, q4, q5, q6, q7] i : Nat) ∧ Mod No w5 wr) (fun _ v _ => 8 - (intOf v).toNat)
  case atStart => exact ⟨0, Nat.zero_le _, rfl, rfl, Mod.refl _ _⟩
  case round =>
    obtain ⟨i, hi, rfl, rfl, hm⟩ := hrel
    by_cases hlt : i < 8
    · have hlt' : (i : Int) < 8 := by omega
      have hi0 : (0 : Int) ≤ i := by omega
      have c1 := regs_at (hm.blk H35.out (fun q => q)) hlt
      have c2 := regs_at (hm.blk H85.out (fun q => q)) hlt
      have hcs : cntR [r0, r1, r2, r3, r4, r5, r6, r7] [q0, q1, q2, q3, q4, q5, q6, q7] (i + 1) = cntR [r0, r1, r2, r3, r4, r5, r6, r7] [q0, q1, q2, q3, q4, q5, q6, q7] i + if [q0, q1, q2, q3, q4, q5, q6, q7].getD i 0 ≠ [r0, r1, r2, r3, r4, r5, r6, r7].getD i 0 then 1 else 0 := rfl
      have hcl := cntR_le [r0, r1, r2, r3, r4, r5, r6, r7] [q0, q1, q2, q3, q4, q5, q6, q7] i
      generalize [r0, r1, r2, r3, r4, r5, r6, r7].getD i 0 = x at c1 hcs
      generalize [q0, q1, q2, q3, q4, q5, q6, q7].getD i 0 = y at c2 hcs
      generalize hcg : cntR [r0, r1, r2, r3, r4, r5, r6, r7] [q0, q1, q2, q3, q4, q5, q6, q7] i = n at hcs hcl ⊢
      have HM := Lib.hid hm
      clear hm hcg
      by_cases hxy : y = x
      · have d : (y != x) = false := by rw [hxy]; simp
        rw [if_neg (fun q => q hxy)] at hcs
        have HCS := Lib.hid hcs
        clear hcs hxy
        go_upto_region 9 with (fail)
        go_region
        all_goals (
          go_wp2
          go_roundw
          case rel => exact ⟨i + 1, by omega, by go_num, by rw [HCS.out]; rfl, HM.out.drew⟩
          case measure => simp [intOf]; omega)
      · have d : (y != x) = true := bne_iff_ne.2 hxy
        rw [if_pos hxy] at hcs
        have HCS := Lib.hid hcs
        clear hcs hxy
        go_upto_region 9 with (fail)
        go_region
        all_goals (
          go_wp2
          go_roundw
          case rel => exact ⟨i + 1, by omega, by go_num, by rw [HCS.out]; go_num, HM.out.drew⟩
          case measure => simp [intOf]; omega)
    · obtain rfl : i = 8 := by omega
      have HM6 := Lib.hid (HM5.out.trans hm)
      have HR6 := Lib.hid (HR5.out.keptNo hm)
      have HP6 := Lib.hid (HP5.out.kept hm (fun q => q) (fun q => q))
      have H36 := Lib.hid (hm.blk H35.out (fun q => q))
      have H86 := Lib.hid (hm.blk H85.out (fun q => q))
      have H96 := Lib.hid (hm.blk H95.out (fun q => q))
      clear hm HM5 HR5 HP5 H35 H85 H95
      generalize hRG : cntR [r0, r1, r2, r3, r4, r5, r6, r7] [q0, q1, q2, q3, q4, q5, q6, q7] 8 = rg at HONE ⊢
      have HRG := Lib.hid hRG
      obtain ⟨wo, rfl⟩ : ∃ wo, wo = wr := ⟨_, rfl⟩
      have hrg1 : rg ≤ 1 := by have := HONE.out; omega
      clear hRG
      go_wp2_with fail
      go_loopw [12, 13] (fun vc v wx => ∃ i : Nat, i ≤ 6 ∧ v = .int .i64 i ∧ vc = .int .i64 (chS S0 S1 i : Nat) ∧ Mod No wo wx) (fun _ v _ => 6 - (intOf v).toNat)
      case atStart => exact ⟨0, Nat.zero_le _, rfl, rfl, Mod.refl _ _⟩
      case round =>
        obtain ⟨i, hi, rfl, rfl, hm⟩ := hrel
        by_cases hlt : i < 6
        · have hlt' : (i : Int) < 6 := by omega
          have hi0 : (0 : Int) ≤ i := by omega
          obtain ⟨f, hf⟩ : ∃ f, S0[i]? = some f := ⟨_, List.getElem?_eq_getElem (by have := HS6.out; omega)⟩
          obtain ⟨g, hg⟩ : ∃ g, S1[i]? = some g := ⟨_, List.getElem?_eq_getElem (by have := HL1.out; omega)⟩
          have HRD := Lib.hid (read_in i 0 256 g wr (HP6.out.kept hm (fun q => q) (fun q => q)) ⟨by have := HL1.out; omega, by omega, by omega, by omega⟩ (by rw [Int.toNat_natCast]; exact hg))
          have hgl := (HP6.out.ok g (List.mem_of_getElem? hg)).1
          have hfl := (HR6.out.ok f (List.mem_of_getElem? hf)).1
          have hbe : (g.bytes.drop (0 : Int).toNat).take (256 : Int).toNat = g.bytes := List.take_of_length_le (by rw [show (g.bytes.drop (0 : Int).toNat) = g.bytes from rfl, hgl]; exact Nat.le_refl _)
          have hcw : ∀ k, g.bytes.getD k 0 ≠ f.bytes.getD k 0 → CanWrite S0 i := fun k hk => (HLIT.out.1.mem.2 i (fun e => by
            rw [List.getD_eq_getElem?_getD, List.getD_eq_getElem?_getD, hf, hg] at e
            have e2 : g = f := e
            exact hk (by rw [e2])))
          have hch : chS S0 S1 (i + 1) = chS S0 S1 i + chF f g 256 := by rw [chS, chAt_of hf hg]
          have hcb := chS_le S0 S1 i
          generalize chS S0 S1 i = n at hch hcb ⊢
          have HM := Lib.hid hm
          have HF := Lib.hid hf
          have HCW := Lib.hid hcw
          have HCH := Lib.hid hch
          have HGL := Lib.hid hgl
          have HFL := Lib.hid hfl
          have HBE := Lib.hid hbe
          clear hm hf hg hgl hfl hbe hcw hch
          go_wp2_with fail
          refine HRD.out.mono ?_
          rintro e w7 ⟨rfl, hm7, _, hg7⟩
          rw [HBE.out] at hg7
          generalize wr.heap.size = gb at hg7 ⊢
          have HG7 := Lib.hid hg7
          have HM7 := Lib.hid (HM.out.trans hm7)
          clear hm7 hg7 HM HRD HBE
          go_wp2_with fail
          go_loopw [12, 16] (fun vc v wy => ∃ k : Nat, k ≤ 256 ∧ v = .int .i64 k ∧ vc = .int .i64 (n + chF f g k : Nat) ∧ Mod No wo wy ∧ wy.heap[gb]? = some (.cells (g.bytes.map (Value.int .u8)).toArray 5 (0, 0))) (fun _ v _ => 256 - (intOf v).toNat)
          case atStart => exact ⟨0, Nat.zero_le _, rfl, rfl, HM7.out, HG7.out⟩
          case round =>
            clear HM7 HG7
            obtain ⟨k, hk, rfl, rfl, hm, hg7⟩ := hrel
            by_cases hk6 : k < 256
            · have hk6' : (k : Int) < 256 := by omega
              have hk0 : (0 : Int) ≤ k := by omega
              obtain ⟨y, hy⟩ : ∃ y, g.bytes[k]? = some y := ⟨_, List.getElem?_eq_getElem (by rw [HGL.out]; omega)⟩
              obtain ⟨x, hx⟩ : ∃ x, f.bytes[k]? = some x := ⟨_, List.getElem?_eq_getElem (by rw [HFL.out]; omega)⟩
              have cy : wr.cell? ⟨gb, k, none⟩ = some (.int .u8 y) := by rw [row_cell hg7, List.getElem?_map, hy]; rfl
              have hR := HR6.out.keptNo hm
              obtain ⟨cB, hcB, hB0⟩ := hR.cB
              obtain ⟨rb, rc, hrc, hbl, hcR, hcx, _⟩ := hR.cR HF.out
              have cx := hcx k x hx
              rw [HS6.out] at hB0 hcB
              have hrc2 : (256 : Int) ≤ rc := by omega
              have e1 : g.bytes.getD k 0 = y := by rw [List.getD_eq_getElem?_getD, hy]; rfl
              have e2 : f.bytes.getD k 0 = x := by rw [List.getD_eq_getElem?_getD, hx]; rfl
              have hcs : chF f g (k + 1) = chF f g k + if y ≠ x then 1 else 0 := by rw [chF, e1, e2]
              have hcl := chF_le f g k
              have hcw : y ≠ x → CanWrite S0 i := fun q => HCW.out k (by rw [e1, e2]; exact q)
              generalize chF f g k = c at hcs hcl ⊢
              have HM := Lib.hid hm
              have HG := Lib.hid hg7
              have HRR := Lib.hid hR
              have HCWX := Lib.hid hcw
              clear hm hg7 hR hy hx hcx hbl e1 e2 hcw
              by_cases hxy : y = x
              · have d : (y != x) = false := by rw [hxy]; simp
                rw [if_neg (fun q => q hxy)] at hcs
                have HCS := Lib.hid hcs
                clear hcs hxy
                go_upto_region 19 with (fail)
                go_region
                all_goals (
                  go_wp2
                  go_roundw
                  case rel => exact ⟨k + 1, by omega, by go_num, by rw [HCS.out]; rfl, HM.out.drew, HG.out⟩
                  case measure => simp [intOf]; omega)
              · have d : (y != x) = true := bne_iff_ne.2 hxy
                rw [if_pos hxy] at hcs
                have HCS := Lib.hid hcs
                have HWR := Lib.hid (fun w' (hm' : Mod No wr w') => writable_yes i w' (HRR.out.keptNo hm') (HCWX.out hxy))
                clear hcs hxy
                go_upto_region 19 with (fail)
                go_region
                all_goals (
                  go_wp2_with (go_at_call 8; refine (HWR.out _ (Mod.refl No wr).drew).mono ?_; rintro e w8 ⟨rfl, hm8⟩; have HM8 := Lib.hid ((Mod.refl No wr).drew.trans hm8); clear hm8)
                  go_roundw
                  case rel => exact ⟨k + 1, by omega, by go_num, by rw [HCS.out]; go_num, HM.out.trans HM8.out, HM8.out.blk HG.out (fun q => q)⟩
                  case measure => simp [intOf]; omega)
            · obtain rfl : k = 256 := by omega
              have HM := Lib.hid hm
              clear hm hg7
              go_wp2_with fail
              refine ⟨?_, ?_⟩
              · repeat apply Exists.intro
                refine And.intro ⟨i + 1, by omega, by go_num, by rw [HCH.out], HM.out⟩ ?_
                rfl
              · simp [intOf]; omega
        · obtain rfl : i = 6 := by omega
          have H37 := hm.blk H36.out (fun q => q)
          have H87 := hm.blk H86.out (fun q => q)
          have H97 := hm.blk H96.out (fun q => q)
          have HM7 := Lib.hid (HM6.out.trans hm)
          have HME : chS S0 S1 6 ≤ 4 := HLIT.out.1.mem.1
          have hstill := HLIT.out.2
          have hkind : 0 ≤ sk ∧ sk ≤ 3 := HLIT.out.1.kind
          have hregs : [q0, q1, q2, q3, q4, q5, q6, q7] = [r0, r1, r2, r3, r4, r5, r6, r7] ∨ (∃ a v, [q0, q1, q2, q3, q4, q5, q6, q7] = [r0, r1, r2, r3, r4, r5, r6, r7].set a v) ∧ S1 = S0 ∧ sk = 0 := HLIT.out.1.regs
          have hst2 : sk = 1 ∨ sk = 3 → [q0, q1, q2, q3, q4, q5, q6, q7] = [r0, r1, r2, r3, r4, r5, r6, r7] ∧ q8 = r8 ∧ S1 = S0 := hstill
          have hex : rg = 0 ∨ chS S0 S1 6 = 0 := by
            rcases hregs with e | ⟨_, e, _⟩
            · left; rw [← HRG.out, e, cntR_same]
            · right; rw [e, chS_same]
          have hcall : sk = 2 → rg = 0 := fun q => by
            rcases hregs with e | ⟨_, _, e⟩
            · rw [← HRG.out, e, cntR_same]
            · omega
          have hz : sk = 1 ∨ sk = 3 → rg = 0 ∧ chS S0 S1 6 = 0 := fun q => by
            obtain ⟨e1, _, e3⟩ := hst2 q
            exact ⟨by rw [← HRG.out, e1, cntR_same], by rw [e3, chS_same]⟩
          generalize chS S0 S1 6 = cb at HME hex hz ⊢
          clear hm HM6 HR6 HP6 H36 H86 H96 HLIT hstill hregs HRG HONE
          rcases (show sk = 0 ∨ sk = 1 ∨ sk = 2 ∨ sk = 3 by omega) with rfl | rfl | rfl | rfl
          · have d1 : decide ((rg : Int) ≤ 1) = true := decide_eq_true (by omega)
            have d2 : decide ((cb : Int) ≤ 4) = true := decide_eq_true (by omega)
            clear hst2 hcall hz
            by_cases hr : rg = 0
            · subst hr
              have g0 := row_cell H97 0
              simp only [List.getElem?_cons_zero] at g0
              clear H37 H87 H97
              go_wp2_with (go_at_call 9; refine (awake19_yes _).mono ?_; rintro e w9 ⟨rfl, hm9⟩; have HM9 := Lib.hid (HM7.out.trans hm9); clear hm9)
              go_ret
              exact ⟨rfl, HM9.out⟩
            · have d3 : ((rg : Int) == 0) = false := beq_eq_false_iff_ne.2 (by omega)
              obtain rfl : cb = 0 := by omega
              have g0 := row_cell H97 0
              simp only [List.getElem?_cons_zero] at g0
              clear H37 H87 H97
              go_wp2_with (go_at_call 9; refine (awake19_yes _).mono ?_; rintro e w9 ⟨rfl, hm9⟩; have HM9 := Lib.hid (HM7.out.trans hm9); clear hm9)
              go_ret
              exact ⟨rfl, HM9.out⟩
          · obtain ⟨e1, e2, _⟩ := hst2 (.inl rfl)
            obtain ⟨rfl, rfl⟩ := hz (.inl rfl)
            subst e2
            simp only [List.cons.injEq, and_true] at e1
            obtain ⟨rfl, rfl, rfl, rfl, rfl, rfl, rfl, rfl⟩ := e1
            clear hst2 hcall hz
            have x0 := row_cell H37 0
            have x1 := row_cell H37 1
            have x2 := row_cell H37 2
            have x3 := row_cell H37 3
            have x4 := row_cell H37 4
            have x5 := row_cell H37 5
            have x6 := row_cell H37 6
            have x7 := row_cell H37 7
            have x8 := row_cell H37 8
            have y0 := row_cell H87 0
            have y1 := row_cell H87 1
            have y2 := row_cell H87 2
            have y3 := row_cell H87 3
            have y4 := row_cell H87 4
            have y5 := row_cell H87 5
            have y6 := row_cell H87 6
            have y7 := row_cell H87 7
            have y8 := row_cell H87 8
            simp only [List.getElem?_cons_zero, List.getElem?_cons_succ] at x0 x1 x2 x3 x4 x5 x6 x7 x8 y0 y1 y2 y3 y4 y5 y6 y7 y8
            have he2 : ∀ w, (Op.equalIn 9999 24 (.agg #[.int .u32 q0, .int .u32 q1, .int .u32 q2, .int .u32 q3, .int .u32 q4, .int .u32 q5, .int .u32 q6, .int .u32 q7]) (.agg #[.int .u32 q0, .int .u32 q1, .int .u32 q2, .int .u32 q3, .int .u32 q4, .int .u32 q5, .int .u32 q6, .int .u32 q7])).run Tryd.prog w = .ok true w := fun w => (eq8b 9997 q0 q1 q2 q3 q4 q5 q6 q7 q0 q1 q2 q3 q4 q5 q6 q7 w).trans (by rw [decide_eq_true rfl])
            have g0 := row_cell H97 0
            simp only [List.getElem?_cons_zero] at g0
            clear H37 H87 H97
            go_wp2_with (go_at_call 9; refine (awake19_yes _).mono ?_; rintro e w9 ⟨rfl, hm9⟩; have HM9 := Lib.hid (HM7.out.trans hm9); clear hm9)
            go_ret
            exact ⟨rfl, HM9.out⟩
          · obtain rfl : rg = 0 := hcall rfl
            have d2 : decide ((cb : Int) ≤ 4) = true := decide_eq_true (by omega)
            clear hst2 hcall hz
            have g0 := row_cell H97 0
            simp only [List.getElem?_cons_zero] at g0
            clear H37 H87 H97
            go_wp2_with (go_at_call 9; refine (awake19_yes _).mono ?_; rintro e w9 ⟨rfl, hm9⟩; have HM9 := Lib.hid (HM7.out.trans hm9); clear hm9)
            go_ret
            exact ⟨rfl, HM9.out⟩
          · obtain ⟨e1, e2, _⟩ := hst2 (.inr rfl)
            obtain ⟨rfl, rfl⟩ := hz (.inr rfl)
            subst e2
            simp only [List.cons.injEq, and_true] at e1
            obtain ⟨rfl, rfl, rfl, rfl, rfl, rfl, rfl, rfl⟩ := e1
            clear hst2 hcall hz
            have x0 := row_cell H37 0
            have x1 := row_cell H37 1
            have x2 := row_cell H37 2
            have x3 := row_cell H37 3
            have x4 := row_cell H37 4
            have x5 := row_cell H37 5
            have x6 := row_cell H37 6
            have x7 := row_cell H37 7
            have x8 := row_cell H37 8
            have y0 := row_cell H87 0
            have y1 := row_cell H87 1
            have y2 := row_cell H87 2
            have y3 := row_cell H87 3
            have y4 := row_cell H87 4
            have y5 := row_cell H87 5
            have y6 := row_cell H87 6
            have y7 := row_cell H87 7
            have y8 := row_cell H87 8
            simp only [List.getElem?_cons_zero, List.getElem?_cons_succ] at x0 x1 x2 x3 x4 x5 x6 x7 x8 y0 y1 y2 y3 y4 y5 y6 y7 y8
            have he2 : ∀ w, (Op.equalIn 9999 24 (.agg #[.int .u32 q0, .int .u32 q1, .int .u32 q2, .int .u32 q3, .int .u32 q4, .int .u32 q5, .int .u32 q6, .int .u32 q7]) (.agg #[.int .u32 q0, .int .u32 q1, .int .u32 q2, .int .u32 q3, .int .u32 q4, .int .u32 q5, .int .u32 q6, .int .u32 q7])).run Tryd.prog w = .ok true w := fun w => (eq8b 9997 q0 q1 q2 q3 q4 q5 q6 q7 q0 q1 q2 q3 q4 q5 q6 q7 w).trans (by rw [decide_eq_true rfl])
            have g0 := row_cell H97 0
            simp only [List.getElem?_cons_zero] at g0
            clear H37 H87 H97
            go_wp2_with (go_at_call 9; refine (awake19_yes _).mono ?_; rintro e w9 ⟨rfl, hm9⟩; have HM9 := Lib.hid (HM7.out.trans hm9); clear hm9)
            go_ret
            exact ⟨rfl, HM9.out⟩
end Go.Proofs.YtlbebneblmgdcaaDoor
