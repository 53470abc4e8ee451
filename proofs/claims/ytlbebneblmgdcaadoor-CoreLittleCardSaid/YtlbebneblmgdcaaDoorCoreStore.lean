/- core: stores. -/
import Derived.Test.YtlbebneblmgdcaaDoorCoreDoF
import Derived.Test.YtlbebneblmgdcaaDoorFetchR
namespace Go.Proofs.YtlbebneblmgdcaaDoor
open Go.RowKit
set_option maxRecDepth 100000

/-- A number's four bytes, the least first. -/
def fourR (x : Int) : List Int := [x % 256, x / 256 % 256, x / 65536 % 256, x / 16777216]
theorem fourR_range {x : Int} (h : 0 ≤ x ∧ x ≤ 4294967295) : ∀ y ∈ fourR x, 0 ≤ y ∧ y ≤ 255 := by
  intro y hy
  simp only [fourR, List.mem_cons, List.not_mem_nil, or_false] at hy
  rcases hy with rfl | rfl | rfl | rfl <;> omega

/-- What a method on registers and memory leaves. -/
def DoS (w : World) (P B F : Nat) (R' : List Int) (pc' : Int) (root : Int) (st' : List Value) (S' : List Fr) (e : Ending) (w' : World) : Prop :=
  e = .returned (.tuple #[]) ∧ CpuAt w' P R' pc' (.pointer (some ⟨B, 0, none⟩)) root st' ∧ PhM w' B F S' ∧ Mod (fun k => k = P ∨ k = F) w w'

def putStop (S : List Fr) (root : Int) (R : List Int) (a b : Nat) (c : Int) (N : Nat) : List Value :=
  if (storeR S root ((R.getD b 0 + c) % 1048576) ((fourR (R.getD a 0)).take N)).1 = 0 then stopL 0 0 0 0 0 0 0 0 else stopL 3 0 0 0 0 0 0 (storeR S root ((R.getD b 0 + c) % 1048576) ((fourR (R.getD a 0)).take N)).1

set_option maxHeartbeats 4000000 in
theorem store_any {B F : Nat} {S : List Fr} (P a b : Nat) (c : Int) (N : Nat) (o : Int) (R : List Int) (pc : Int) (root : Int) (w : World) (hm : PhM w B F S) (h : CpuAt w P R pc (.pointer (some ⟨B, 0, none⟩)) root (stopL 0 0 0 0 0 0 0 0)) (hR : ∀ x ∈ R, 0 ≤ x ∧ x ≤ 4294967295) (ha : a < 8) (hb : b < 8) (hN : 1 ≤ N ∧ N ≤ 4) (hPB : P ≠ B) (hPF : P ≠ F) :
    Calls Tryd.prog 65 #[.pointer (some ⟨P, 0, none⟩), .agg #[.int .u8 o, .int .u8 a, .int .u8 b, .int .u8 c], .int .i64 N] w (DoS w P B F R pc root (putStop S root R a b c N) (storeR S root ((R.getD b 0 + c) % 1048576) ((fourR (R.getD a 0)).take N)).2) := by
  have hP : P < w.heap.size := World.block_lt_of_cell? w _ (h.reg (k := 0) (by omega))
  have H := Lib.hid h
  have HM := Lib.hid hm
  have ia : (a : Int) < 8 := by omega
  have ib : (b : Int) < 8 := by omega
  obtain ⟨x, hx⟩ : ∃ x, x = R.getD b 0 := ⟨_, rfl⟩
  obtain ⟨y, hy⟩ : ∃ x, x = R.getD a 0 := ⟨_, rfl⟩
  obtain ⟨x0, x1⟩ := hR _ (regs_mem h.2 hb)
  obtain ⟨y0, y1⟩ := hR _ (regs_mem h.2 ha)
  unfold putStop
  rw [← hx] at x0 x1 ⊢
  rw [← hy] at y0 y1 ⊢
  have hat : (IntKind.u32.wrap (x + IntKind.u32.wrap c)).tmod 1048576 = (x + c) % 1048576 := by
    rw [IntKind.wrap_u32, IntKind.wrap_u32, Int.tmod_eq_emod_of_nonneg (by omega)]; omega
  have HAT := Lib.hid hat
  have hat0 : 0 ≤ (x + c) % 1048576 ∧ (x + c) % 1048576 < 1048576 := by omega
  generalize (x + c) % 1048576 = at' at HAT hat0 ⊢
  have HFR := Lib.hid (fourR_range (x := y) ⟨y0, y1⟩)
  have HX := Lib.hid hx
  have HYE := Lib.hid hy
  have i1 : (1 : Int) ≤ N := by omega
  have i4 : (N : Int) ≤ 4 := by omega
  have i0 : (0 : Int) ≤ N := by omega
  have ra := h.reg ha
  rw [← hy] at ra
  have hlN : ((fourR y).take N).length = N := by rw [List.length_take]; simp [fourR]; omega
  have HST0 : Hid (∀ w' g, PhM w' B F S → w'.heap[g]? = some (.cells ((fourR y).map (Value.int .u8)).toArray 5 (0, 0)) → g ≠ F → Calls Tryd.prog 74 #[.pointer (some ⟨B, 0, none⟩), .int .i64 root, .int .u32 at', .slice (some ⟨g, 0, none⟩) N 4] w' fun e w3 => e = .returned (.int .i64 (storeR S root at' ((fourR y).take N)).1) ∧ Mod (One F) w' w3 ∧ PhM w3 B F (storeR S root at' ((fourR y).take N)).2) := by
    intro w' g hph hg hgF
    have hby : Byt w' (some ⟨g, 0, none⟩) ((fourR y).take N) 4 := by
      refine ⟨fun v hv => HFR.out v (List.mem_of_mem_take hv), by omega, by omega, (fun q => by cases q), fun _ => ⟨g, 0, rfl, lt_of_blk hg, fun j v hv => ?_⟩⟩
      rw [row_cell hg, Nat.zero_add, List.getElem?_map]
      have : j < N := by
        have := (List.getElem?_eq_some_iff.1 hv).1
        omega
      rw [List.getElem?_take_of_lt this] at hv
      rw [hv]; rfl
    have := pstoreR root at' (some ⟨g, 0, none⟩) ((fourR y).take N) 4 w' hph hat0.1 (by omega) hby (fun b off _ q => by cases q; exact hgF)
    rwa [hlN] at this
  clear hlN HFR
  generalize (storeR S root at' ((fourR y).take N)).1 = er at HST0 ⊢
  generalize (storeR S root at' ((fourR y).take N)).2 = S' at HST0 ⊢
  clear h hm hx hy hat hR
  go_enter Tryd.func65, Tryd.ntmps65
  go_upto_region 1 with (fail)
  go_quiet (fail)
  have hm1 : Mod No w ((w.alloc (.cells #[.int .u8 o, .int .u8 a, .int .u8 b, .int .u8 c] 63)).drewN nq) := ((Mod.refl No w).alloc _).drewN nq
  have hB : ((w.alloc (.cells #[.int .u8 o, .int .u8 a, .int .u8 b, .int .u8 c] 63)).drewN nq).heap[w.heap.size]? = some (.cells ([.int .u8 o, .int .u8 a, .int .u8 b, .int .u8 c] : List Value).toArray 63 (0, 0)) := heap_alloc_new w _
  have hne : P ≠ w.heap.size := by omega
  have hBF : F ≠ w.heap.size := by have := HM.out.ltF; omega
  generalize (w.alloc (.cells #[.int .u8 o, .int .u8 a, .int .u8 b, .int .u8 c] 63)).drewN nq = w1 at hm1 hB ⊢
  generalize w.heap.size = bx at hB hne hBF ⊢
  have hm2 : Mod No w1 (w1.alloc (.cells #[.int .u8 (y % 256), .int .u8 (y / 256 % 256), .int .u8 (y / 65536 % 256), .int .u8 (y / 16777216)] 5)) := (Mod.refl No w1).alloc _
  have HMX := Lib.hid hm1
  clear ra
  go_upto_region 3 with (fail)
  have hG : (w1.alloc (.cells #[.int .u8 (y % 256), .int .u8 (y / 256 % 256), .int .u8 (y / 65536 % 256), .int .u8 (y / 16777216)] 5)).heap[w1.heap.size]? = some (.cells ((fourR y).map (Value.int .u8)).toArray 5 (0, 0)) := heap_alloc_new w1 _
  have hB2 := hm2.blk hB (fun q => q)
  have hbg : bx < w1.heap.size := lt_of_blk hB
  have hmw2 := HMX.out.trans hm2
  have hgF : w1.heap.size ≠ F := by have := HM.out.ltF; have := HMX.out.size; omega
  generalize (w1.alloc (.cells #[.int .u8 (y % 256), .int .u8 (y / 256 % 256), .int .u8 (y / 65536 % 256), .int .u8 (y / 16777216)] 5)) = w2 at hG hB2 hmw2 ⊢
  generalize w1.heap.size = g at hG hbg hgF ⊢
  clear hm2 hB hm1
  have H2 := Lib.hid (H.out.kept hmw2 (fun q => q))
  have HM2 := Lib.hid hmw2
  have HB := Lib.hid hB2
  have HG := Lib.hid hG
  have HST : Hid (∀ w', Mod No w2 w' → Calls Tryd.prog 74 #[.pointer (some ⟨B, 0, none⟩), .int .i64 root, .int .u32 at', .slice (some ⟨g, 0, none⟩) N 4] w' fun e w3 => e = .returned (.int .i64 er) ∧ Mod (One F) w' w3 ∧ PhM w3 B F S') :=
    fun w' hm' => HST0.out w' g (HM.out.kept (HM2.out.trans hm') (fun q => q) (fun q => q)) (hm'.blk HG.out (fun q => q)) hgF
  clear HST0
  have HS : Hid (∀ w3, Mod (One F) w2 w3 → (fun w' : World => w'.cell? ⟨bx, 0, none⟩ = some (.int .u8 o) ∧ w'.cell? ⟨bx, 1, none⟩ = some (.int .u8 a) ∧ w'.cell? ⟨bx, 2, none⟩ = some (.int .u8 b) ∧ w'.cell? ⟨bx, 3, none⟩ = some (.int .u8 c) ∧ w'.cell? ⟨P, b, none⟩ = some (.int .u32 x) ∧ w'.cell? ⟨P, 9, none⟩ = some (.pointer (some ⟨B, 0, none⟩)) ∧ w'.cell? ⟨P, 10, none⟩ = some (.int .i64 root)) w3) := fun w3 hm =>
    have hh := H2.out.kept hm hPF
    have hbb := hm.blk HB.out (fun q => hBF q.symm)
    ⟨row_cell hbb 0, row_cell hbb 1, row_cell hbb 2, row_cell hbb 3, by rw [HX.out]; exact hh.reg hb, hh.rest 1, hh.rest 2⟩
  have hS1 := HS.out w2 (Mod.refl _ w2)
  obtain ⟨u0, u1, u2, u3, u4, u5, u6⟩ := hS1
  have hS1 := HS.out w2 (Mod.refl _ w2)
  have hP1 : P < w2.heap.size := Nat.lt_of_lt_of_le hP hmw2.size
  clear hP hmw2 hB2 hG
  go_region_held3 (fun w' : World => w'.cell? ⟨bx, 0, none⟩ = some (.int .u8 o) ∧ w'.cell? ⟨bx, 1, none⟩ = some (.int .u8 a) ∧ w'.cell? ⟨bx, 2, none⟩ = some (.int .u8 b) ∧ w'.cell? ⟨bx, 3, none⟩ = some (.int .u8 c) ∧ w'.cell? ⟨P, b, none⟩ = some (.int .u32 x) ∧ w'.cell? ⟨P, 9, none⟩ = some (.pointer (some ⟨B, 0, none⟩)) ∧ w'.cell? ⟨P, 10, none⟩ = some (.int .i64 root)) (first | exact hS1 | assumption) ((go_at_call 74; rw [HAT.out]; refine (HST.out _ ((Mod.refl No w2).drew)).mono ?_; rintro e w3 ⟨rfl, hm3, hp3⟩; have hS2 := HS.out w3 ((Mod.refl _ w2).drew.trans hm3); have HM3 := Lib.hid (Mod.trans (P := One F) (Mod.refl _ w2).drew hm3); have HP3 := Lib.hid hp3; have HH3 := Lib.hid (H2.out.kept ((Mod.refl (One F) w2).drew.trans hm3) hPF); clear hm3 hp3))
  have hP3 : P < w3.heap.size := lt_of_blk HH3.out.1
  have s0 : w3.cell? ⟨P, 11, none⟩ = some (.int .i64 0) := HH3.out.rest 3
  have s1 : w3.cell? ⟨P, 12, none⟩ = some (.int .u32 0) := HH3.out.rest 4
  have s2 : w3.cell? ⟨P, 13, none⟩ = some (.int .u32 0) := HH3.out.rest 5
  have s3 : w3.cell? ⟨P, 14, none⟩ = some (.int .u32 0) := HH3.out.rest 6
  have s4 : w3.cell? ⟨P, 15, none⟩ = some (.int .u32 0) := HH3.out.rest 7
  have s5 : w3.cell? ⟨P, 16, none⟩ = some (.int .u32 0) := HH3.out.rest 8
  have s6 : w3.cell? ⟨P, 17, none⟩ = some (.int .u32 0) := HH3.out.rest 9
  have s7 : w3.cell? ⟨P, 18, none⟩ = some (.int .i64 0) := HH3.out.rest 10
  have f0 : w3.frozen? ⟨P, 11, none⟩ = false := row_free HH3.out.1 11
  have f1 : w3.frozen? ⟨P, 12, none⟩ = false := row_free HH3.out.1 12
  have f2 : w3.frozen? ⟨P, 13, none⟩ = false := row_free HH3.out.1 13
  have f3 : w3.frozen? ⟨P, 14, none⟩ = false := row_free HH3.out.1 14
  have f4 : w3.frozen? ⟨P, 15, none⟩ = false := row_free HH3.out.1 15
  have f5 : w3.frozen? ⟨P, 16, none⟩ = false := row_free HH3.out.1 16
  have f6 : w3.frozen? ⟨P, 17, none⟩ = false := row_free HH3.out.1 17
  have f7 : w3.frozen? ⟨P, 18, none⟩ = false := row_free HH3.out.1 18
  have HMT : Hid (Mod (fun k => k = P ∨ k = F) w w3) := Lib.hid ((HM2.out.of_no).trans (HM3.out.mono (fun _ _ q => .inr q)))
  clear hS2 hS1 u0 u1 u2 u3 u4 u5 u6 HS HB HST HAT HM H H2 HG HM2 HM3 HMX
  by_cases he : er = 0
  · rw [if_pos he]
    subst he
    go_wp2_with fail
    go_end0
    exact ⟨rfl, HH3.out, HP3.out, HMT.out⟩
  · rw [if_neg he]
    have d1 : (er == 0) = false := beq_eq_false_iff_ne.2 he
    have d2 : (er != 0) = true := bne_iff_ne.2 he
    go_wp2_with fail
    go_end0
    exact ⟨rfl, HH3.out.stop rfl _ _ _ _ _ _ _ _, HP3.out.kept (mod_stop (P := P) _ _ _ _ _ _ _ _) (fun q => hPB q.symm) (fun q => hPF q.symm), HMT.out.trans ((mod_stop _ _ _ _ _ _ _ _).mono (fun _ _ q => .inl q))⟩

end Go.Proofs.YtlbebneblmgdcaaDoor
