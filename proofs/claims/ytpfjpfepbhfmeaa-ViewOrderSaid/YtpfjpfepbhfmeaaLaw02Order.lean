/- tenementlaw02.ViewOrder: of rewrites that are due at once the later ones win. -/
import Derived.Test.YtpfjpfepbhfmeaaRefVG
import Derived.Deep.RegionHeld3
namespace Go.Proofs.Ytpfjpfepbhfmeaa
open Go.RowKit
set_option maxRecDepth 100000

def fiveFr : Fr := { freeFr with owner := 5 }
theorem idx_one : idxs (List.replicate 1 freeFr) (-1) (List.replicate 1 freeFr).length = ((0 : Nat) : Int) :: [] := rfl
theorem idx_five : idxs [fiveFr] (-1) [fiveFr].length = [] := rfl

/-- The list of two that the law lays. -/
def ordL (M : Int) (q0 : Option Addr) (b0 : List Int) (c0 : Nat) (q1 : Option Addr) (b1 : List Int) (c1 : Nat) : List Pk := [⟨M, 0, 0, q0, b0, c0⟩, ⟨M, 0, 0, q1, b1, c1⟩]

theorem ord_pks {w : World} {g : Nat} {M : Int} {q0 : Option Addr} {b0 : List Int} {c0 : Nat} {q1 : Option Addr} {b1 : List Int} {c1 : Nat} (hM : 0 ≤ M ∧ M ≤ 3) (h0 : Byt w q0 b0 c0) (h1 : Byt w q1 b1 c1)
    (hg : w.heap[g]? = some (.cells #[.int .i64 M, .int .i64 0, .int .i64 0, .slice q0 b0.length c0, .int .i64 M, .int .i64 0, .int .i64 0, .slice q1 b1.length c1] 60 (0, 0))) : PkS w (some ⟨g, 0, none⟩) (ordL M q0 b0 c0 q1 b1 c1) := by
  refine ⟨?_, fun _ => ⟨g, 0, rfl, lt_of_blk hg, ?_⟩⟩
  · intro o ho
    simp only [ordL, List.mem_cons, List.not_mem_nil, or_false] at ho
    rcases ho with rfl | rfl
    · exact ⟨WalkArith.wf_i64 (by simp only; omega), WalkArith.wf_i64 (by simp only; omega), WalkArith.wf_i64 (by simp only; omega), h0⟩
    · exact ⟨WalkArith.wf_i64 (by simp only; omega), WalkArith.wf_i64 (by simp only; omega), WalkArith.wf_i64 (by simp only; omega), h1⟩
  · intro i o hi j v hj
    have hil := (List.getElem?_eq_some_iff.1 hi).1
    have hjl := (List.getElem?_eq_some_iff.1 hj).1
    have hg' : w.heap[g]? = some (.cells ([.int .i64 M, .int .i64 0, .int .i64 0, .slice q0 b0.length c0, .int .i64 M, .int .i64 0, .int .i64 0, .slice q1 b1.length c1] : List Value).toArray 60 (0, 0)) := hg
    rw [Nat.zero_add, row_cell hg']
    match i, hil with
    | 0, _ =>
      cases hi
      simp only [Pk.cells, List.length_cons, List.length_nil] at hjl
      match j, hjl with
      | 0, _ => exact hj
      | 1, _ => exact hj
      | 2, _ => exact hj
      | 3, _ => exact hj
    | 1, _ =>
      cases hi
      simp only [Pk.cells, List.length_cons, List.length_nil] at hjl
      match j, hjl with
      | 0, _ => exact hj
      | 1, _ => exact hj
      | 2, _ => exact hj
      | 3, _ => exact hj

theorem ord_due {M N : Int} {q0 : Option Addr} {b0 : List Int} {c0 : Nat} {q1 : Option Addr} {b1 : List Int} {c1 : Nat} (h : N ≠ M) : dueAt (ordL M q0 b0 c0 q1 b1 c1) N = [] := by
  have e : (M == N) = false := beq_eq_false_iff_ne.2 (fun q => h q.symm)
  simp [dueAt, ordL, e]
theorem ord_now {M : Int} {q0 : Option Addr} {b0 : List Int} {c0 : Nat} {q1 : Option Addr} {b1 : List Int} {c1 : Nat} : dueAt (ordL M q0 b0 c0 q1 b1 c1) M = ordL M q0 b0 c0 q1 b1 c1 := by
  simp [dueAt, ordL]
theorem ord_rest {M N : Int} {q0 : Option Addr} {b0 : List Int} {c0 : Nat} {q1 : Option Addr} {b1 : List Int} {c1 : Nat} (h : M < N) : restN (ordL M q0 b0 c0 q1 b1 c1) N = 0 := by
  have e : decide (N ≤ M) = false := decide_eq_false (by omega)
  simp [restN, ordL, e]

theorem splice_pt {l bs : List Int} {o : Nat} (hl : l.length = 256) (ho : o + bs.length ≤ 256) (j : Nat) (hj : j < 256) :
    (splice l o bs)[j]? = if o ≤ j ∧ j < o + bs.length then bs[j - o]? else l[j]? := by
  unfold splice
  by_cases h1 : j < o
  · rw [List.getElem?_append_left (by simp; omega), List.getElem?_take_of_lt h1, if_neg (by omega)]
  · rw [List.getElem?_append_right (by simp; omega)]
    have e : (l.take o).length = o := by simp; omega
    rw [e]
    by_cases h2 : j < o + bs.length
    · rw [List.getElem?_append_left (by omega), if_pos ⟨by omega, h2⟩]
    · rw [List.getElem?_append_right (by omega), List.getElem?_drop, if_neg (by omega)]
      congr 1; omega

/-- The frame behind both rewrites; what its first eight bytes are. -/
def ordFr (b0 b1 : List Int) : Fr := { fiveFr with bytes := splice (splice fiveFr.bytes 0 b0) 0 b1 }
def ordW (b0 b1 : List Int) : List Int := (List.range 8).map fun i => if i < b1.length then b1.getD i 0 else if i < b0.length then b0.getD i 0 else 0
def zero8 : List Int := List.replicate 8 0

theorem five_len : fiveFr.bytes.length = 256 := by simp [fiveFr, freeFr]
theorem five_at {j : Nat} (h : j < 256) : fiveFr.bytes[j]? = some 0 := by
  show (List.replicate 256 (0 : Int))[j]? = some 0
  rw [List.getElem?_replicate, if_pos h]
theorem five_take : (fiveFr.bytes.drop (0 : Int).toNat).take 8 = zero8 := rfl

theorem ord_pokes {M : Int} {q0 : Option Addr} {b0 : List Int} {c0 : Nat} {q1 : Option Addr} {b1 : List Int} {c1 : Nat} (h0 : b0.length ≤ 8) (h1 : b1.length ≤ 8) : pokes (ordL M q0 b0 c0 q1 b1 c1) [fiveFr] = [ordFr b0 b1] := by
  unfold pokes ordL
  simp only [List.foldl_cons, List.foldl_nil, Pk.poke]
  rw [pokeS_yes (S := [fiveFr]) (f := fiveFr) (by omega) rfl ⟨by simp [fiveFr, freeFr], by omega, by omega⟩]
  rw [show ([fiveFr].set (0 : Int).toNat { fiveFr with bytes := splice fiveFr.bytes (0 : Int).toNat b0 }) = [{ fiveFr with bytes := splice fiveFr.bytes (0 : Int).toNat b0 }] from rfl]
  rw [pokeS_yes (f := { fiveFr with bytes := splice fiveFr.bytes (0 : Int).toNat b0 }) (by omega) rfl ⟨by simp [fiveFr, freeFr], by omega, by omega⟩]
  rfl

theorem ord_take {b0 b1 : List Int} (h0 : b0.length ≤ 8) (h1 : b1.length ≤ 8) : ((ordFr b0 b1).bytes.drop (0 : Int).toNat).take 8 = ordW b0 b1 := by
  refine List.ext_getElem? (fun i => ?_)
  have hl : (splice fiveFr.bytes 0 b0).length = 256 := by rw [length_splice _ _ _ (by rw [five_len]; omega), five_len]
  unfold ordW
  rw [List.getElem?_map]
  by_cases hi : i < 8
  · rw [List.getElem?_take_of_lt hi, List.getElem?_range hi]
    show ((splice (splice fiveFr.bytes 0 b0) 0 b1).drop 0)[i]? = _
    rw [List.drop_zero, splice_pt hl (by omega) i (by omega), splice_pt five_len (by omega) i (by omega), five_at (by omega), Nat.sub_zero]
    simp only [Option.map_some]
    by_cases c1 : i < b1.length
    · rw [if_pos (by omega), if_pos c1, List.getD_eq_getElem?_getD, List.getElem?_eq_getElem c1]; rfl
    · rw [if_neg (by omega), if_neg c1]
      by_cases c0 : i < b0.length
      · rw [if_pos (by omega), if_pos c0, List.getD_eq_getElem?_getD, List.getElem?_eq_getElem c0]; rfl
      · rw [if_neg (by omega), if_neg c0]
  · rw [List.getElem?_eq_none (by simp; omega), List.getElem?_eq_none (by simp; omega)]; rfl

theorem ord_wiped (b0 b1 : List Int) : (({ ordFr b0 b1 with bytes := splice (ordFr b0 b1).bytes (0 : Int).toNat zero8 } : Fr).bytes.drop (0 : Int).toNat).take 8 = zero8 := by
  show ((splice (ordFr b0 b1).bytes 0 zero8).drop 0).take 8 = zero8
  rw [List.drop_zero]
  unfold splice
  rw [List.take_zero, List.nil_append, List.take_append_of_le_length (by simp [zero8])]
  rfl

def wantTo (W : List Int) (i : Nat) : List Int := W.take i ++ List.replicate (8 - i) 0
theorem wantTo_zero (W : List Int) : wantTo W 0 = zero8 := by simp [wantTo, zero8]
theorem wantTo_all {W : List Int} (h : W.length = 8) : wantTo W 8 = W := by simp [wantTo]; exact List.take_of_length_le (by omega)
theorem wantTo_set {W : List Int} (h : W.length = 8) {i : Nat} (hi : i < 8) {x : Int} (hx : W[i]? = some x) : (wantTo W i).set i x = wantTo W (i + 1) := by
  unfold wantTo
  have hl : (W.take i).length = i := by simp; omega
  rw [List.set_append_right _ _ (by omega), hl, Nat.sub_self, show 8 - i = (8 - (i + 1)) + 1 by omega, List.replicate_succ, List.set_cons_zero, List.take_add_one, hx]
  simp
theorem wantTo_skip {W : List Int} (h : W.length = 8) {i : Nat} (hi : i < 8) (hx : W[i]? = some 0) : wantTo W i = wantTo W (i + 1) := by
  rw [← wantTo_set h hi hx]
  unfold wantTo
  have hl : (W.take i).length = i := by simp; omega
  rw [List.set_append_right _ _ (by omega), hl, Nat.sub_self, show 8 - i = (8 - (i + 1)) + 1 by omega, List.replicate_succ, List.set_cons_zero]
theorem ordW_len (b0 b1 : List Int) : (ordW b0 b1).length = 8 := by simp [ordW]
theorem ordW_at (b0 b1 : List Int) {i : Nat} (hi : i < 8) : (ordW b0 b1)[i]? = some (if i < b1.length then b1.getD i 0 else if i < b0.length then b0.getD i 0 else 0) := by
  unfold ordW
  rw [List.getElem?_map, List.getElem?_range hi]; rfl

def zCells : Array Value := (zero8.map (Value.int .u8)).toArray
theorem make_eight (w : World) : (Instr.makeSlice 31 (.int .i64 8) (.int .i64 8)).run Try.prog w = .ok (.slice (some ⟨w.heap.size, 0, none⟩) 8 8) (w.alloc (.cells zCells 5)) := by
  have h := run_make_row' (P := Try.prog) 31 5 (.int .u8 0) 1 Try.underlying31 Try.infoU8 rfl .i64 .i64 8 (by omega) (by omega) w
  have e : madeCells #[Value.int .u8 0] 8 = zCells := by rw [made_one, zCells, zero8, List.map_replicate]
  rw [e] at h
  exact h
attribute [irreducible] zCells
theorem zCells_eq : zCells = (zero8.map (Value.int .u8)).toArray := by unfold zCells; rfl
theorem conv_zero {w : World} {g : Nat} (h : w.heap[g]? = some (.cells (zero8.map (Value.int .u8)).toArray 5 (0, 0))) : (convert 31 9 (.slice (some ⟨g, 0, none⟩) 8 8)).run Try.prog w = .ok (.string (strOfNums zero8)) w :=
  conv_row h 0 8 8 zero8 rfl (by simp [zero8])

set_option maxHeartbeats 8000000 in
theorem vorder_any (q0 : Option Addr) (b0 : List Int) (c0 : Nat) (q1 : Option Addr) (b1 : List Int) (c1 : Nat) (at_ : Int) (w : World) (hat : 0 ≤ at_ ∧ at_ ≤ 255) (h0 : Byt w q0 b0 c0) (h1 : Byt w q1 b1 c1) :
    Calls Try.prog 5 #[.slice q0 b0.length c0, .slice q1 b1.length c1, .int .u8 at_] w fun e w' => e = .returned (.bool true) ∧ Mod No w w' := by
  obtain ⟨M, hM⟩ : ∃ M : Nat, (M : Int) = at_ % 4 := ⟨(at_ % 4).toNat, by omega⟩
  have hM3 : M ≤ 3 := by omega
  have H0 := Lib.hid h0
  have H1 := Lib.hid h1
  have hl0 := h0.len
  have hl1 := h1.len
  clear h0 h1
  go_enter Try.func5, Try.ntmps5
  go_wp2_with fail
  refine (new_in 1 _ (by omega) (by omega)).mono ?_
  rintro e w1 ⟨B, F, rfl, hB, hF, hm1, hP1⟩
  go_wp2_with fail
  refine (alloc_some 5 _ hP1 (by omega) idx_one rfl).mono ?_
  rintro e w2 ⟨rfl, hm2, hP2⟩
  have hP2 : PhM w2 B F [fiveFr] := hP2
  have hm12 : Mod No w w2 := hm1.step hm2 (fun i hi e => by cases e; omega)
  have HP2 := Lib.hid hP2
  have HM2 := Lib.hid hm12
  have HF := Lib.hid hF
  clear hm1 hm2 hm12 hP1 hP2 hB hF
  by_cases hlong : 8 < b0.length ∨ 8 < b1.length
  · have HL : Hid (Calls Try.prog 31 #[.pointer (some ⟨B, 0, none⟩)] w2 fun e w' => e = .returned (.int .i64 0) ∧ Below w2.heap.size w2 w') := (left_in w2 HP2.out).mono fun e w' q => ⟨by rw [q.1, idx_five]; rfl, q.2⟩
    obtain ⟨x1, hx1⟩ : ∃ x1, decide (8 < (b0.length : Int)) = x1 := ⟨_, rfl⟩
    cases x1
    · have hx2 : decide (8 < (b1.length : Int)) = true := decide_eq_true (by have := of_decide_eq_false hx1; omega)
      go_wp2_with (go_at_call 31; refine HL.out.mono ?_; rintro e w3 ⟨rfl, hb3⟩)
      go_ret
      exact ⟨rfl, HM2.out.trans (Mod.of_below hb3)⟩
    · go_wp2_with (go_at_call 31; refine HL.out.mono ?_; rintro e w3 ⟨rfl, hb3⟩)
      go_ret
      exact ⟨rfl, HM2.out.trans (Mod.of_below hb3)⟩
  · have d1 : decide (8 < (b0.length : Int)) = false := decide_eq_false (by omega)
    have d2 : decide (8 < (b1.length : Int)) = false := decide_eq_false (by omega)
    go_wp2_with fail
    rw [← hM]
    obtain ⟨l, hl⟩ : ∃ l, l = ordL (M : Int) q0 b0 c0 q1 b1 c1 := ⟨_, rfl⟩
    have hal : Mod No w2 (w2.alloc (.cells #[.int .i64 M, .int .i64 0, .int .i64 0, .slice q0 b0.length c0, .int .i64 M, .int .i64 0, .int .i64 0, .slice q1 b1.length c1] 60)) := (Mod.refl No w2).alloc _
    have hpk : PkS (w2.alloc (.cells #[.int .i64 M, .int .i64 0, .int .i64 0, .slice q0 b0.length c0, .int .i64 M, .int .i64 0, .int .i64 0, .slice q1 b1.length c1] 60)) (some ⟨w2.heap.size, 0, none⟩) l := by
      rw [hl]
      exact ord_pks ⟨by omega, by omega⟩ (H0.out.kept (HM2.out.trans hal)) (H1.out.kept (HM2.out.trans hal)) (heap_alloc_new w2 _)
    have hll : l.length = 2 := by rw [hl]; rfl
    have hvn := vnew_in (some ⟨w2.heap.size, 0, none⟩) l 2 _ (HP2.out.kept hal (fun q => q) (fun q => q)) hpk (by omega)
    rw [hll] at hvn
    have hdn : ∀ N : Int, N ≠ M → dueAt l N = [] := fun N h => by rw [hl]; exact ord_due h
    have hd1 : pokes (dueAt l M) [fiveFr] = [ordFr b0 b1] := by rw [hl, ord_now, ord_pokes (by omega) (by omega)]
    have hdr : ∀ N : Int, (M : Int) < N → restN l N = 0 := fun N h => by rw [hl]; exact ord_rest h
    have HPK := Lib.hid hpk
    have HLL := Lib.hid hll
    have HDN := Lib.hid hdn
    have HD1 := Lib.hid hd1
    have HDR := Lib.hid hdr
    clear hl hpk hll hdn hd1 hdr
    refine hvn.mono ?_
    rintro e w4 ⟨k, rfl, hm4, hv4⟩
    have hvs : VwS w B F (w2.alloc (.cells #[.int .i64 M, .int .i64 0, .int .i64 0, .slice q0 b0.length c0, .int .i64 M, .int .i64 0, .int .i64 0, .slice q1 b1.length c1] 60)).heap.size w4.heap.size k 0 l [fiveFr] w4 :=
      ⟨(HP2.out.kept hal (fun q => q) (fun q => q)).kept hm4 (fun q => q) (fun q => q), hv4, (HM2.out.trans hal).trans hm4, HF.out, by have := HP2.out.ltF; simp only [World.size_alloc]; omega⟩
    generalize (w2.alloc (.cells #[.int .i64 M, .int .i64 0, .int .i64 0, .slice q0 b0.length c0, .int .i64 M, .int .i64 0, .int .i64 0, .slice q1 b1.length c1] 60)).heap.size = base at hvs
    generalize w4.heap.size = top at hvs
    have HV := Lib.hid hvs
    clear hvs hm4 hv4 hvn hal
    go_wp2_with fail
    go_loopw [12] (fun v wr => ∃ i : Nat, i ≤ M ∧ v = .int .i64 i ∧ VwS w B F base top k i l [fiveFr] wr) (fun v _ => M - (intOf v).toNat)
    case atStart => exact ⟨0, Nat.zero_le _, rfl, HV.out⟩
    case round =>
      obtain ⟨i, hi, rfl, hv⟩ := hrel
      have HVR := Lib.hid hv
      clear hv HV
      by_cases hlt : i < M
      · have hlt' : (i : Int) < M := by omega
        have HRD := Lib.hid (vread_ok 0 0 8 fiveFr wr HVR.out.p HVR.out.v HVR.out.F.2 ⟨by omega, by omega⟩ (by rw [HLL.out]; omega) ⟨by simp, by omega, by omega, by omega⟩ (by rw [HDN.out i (by omega)]; rfl))
        go_wp2_with fail
        refine HRD.out.mono ?_
        rintro e w5 ⟨g, rfl, hg0, hg1, hrow, ho⟩
        rw [HDN.out i (by omega)] at ho
        rw [show ((8 : Int).toNat) = 8 from rfl, five_take] at hrow
        have HV5 := Lib.hid (HVR.out.step ho)
        have hmk := make_eight w5.drew
        have hmz : (w5.alloc (.cells zCells 5)).drew.heap[w5.heap.size]? = some (.cells (zero8.map (Value.int .u8)).toArray 5 (0, 0)) := by rw [← zCells_eq]; exact heap_alloc_new w5 _
        have hc1 := conv_zero (w := w5.drew) hrow
        have hc2 := conv_zero (w := (w5.alloc (.cells zCells 5)).drew) (blk_alloc hrow _)
        have hc3 := conv_zero hmz
        have hsz : w5.drew.heap.size = w5.heap.size := rfl
        rw [hsz] at hmk
        clear ho hsz hmz
        go_wp2_with fail
        go_region
        all_goals go_wp2
        all_goals go_roundw
        all_goals first
          | exact ⟨i + 1, by omega, by go_num, HV5.out.no (((Mod.refl No w5).alloc _).drew)⟩
          | (simp [intOf]; omega)
      · obtain rfl : i = M := by omega
        have HW : Hid (VwS w B F base top k i l [fiveFr] wr) := HVR.out
        clear HVR
        have hmk := make_eight wr
        have hz0 : (wr.alloc (.cells zCells 5)).heap[wr.heap.size]? = some (.cells ((wantTo (ordW b0 b1) 0).map (Value.int .u8)).toArray 5 (0, 0)) := by rw [wantTo_zero, ← zCells_eq]; exact heap_alloc_new wr _
        have HZ0 := Lib.hid hz0
        clear hz0
        go_wp2_with fail
        clear hmk
        have HAL : Hid (∃ wo : World, wo.heap.size = wr.heap.size ∧ VwS w B F base top k i l [fiveFr] wo ∧ Mod No wo (wr.alloc (.cells zCells 5))) := ⟨wr, rfl, HW.out, (Mod.refl No wr).alloc _⟩
        clear HW
        generalize wr.alloc (.cells zCells 5) = wz at HZ0 HAL ⊢
        generalize wr.heap.size = wb at HZ0 HAL ⊢
        go_loopw [16] (fun v w2 => ∃ j : Nat, j ≤ 8 ∧ v = .int .i64 j ∧ w2.heap[wb]? = some (.cells ((wantTo (ordW b0 b1) j).map (Value.int .u8)).toArray 5 (0, 0)) ∧ ∃ wo : World, wo.heap.size = wb ∧ VwS w B F base top k i l [fiveFr] wo ∧ Mod No wo w2) (fun v _ => 8 - (intOf v).toNat)
        case atStart => exact ⟨0, by omega, rfl, HZ0.out, HAL.out⟩
        case round =>
          clear HZ0 HAL
          obtain ⟨j, hj, rfl, hrow, wo, rfl, hw, hm⟩ := hrel
          have HW := Lib.hid hw
          clear hw
          have HM := Lib.hid hm
          have HROW := Lib.hid hrow
          by_cases hj8 : j < 8
          · have hj8' : (j : Int) < 8 := by omega
            have hlen8 : ((wantTo (ordW b0 b1) j).map (Value.int .u8)).length = 8 := by simp [wantTo, ordW_len]; omega
            obtain ⟨x0, hx0⟩ : ∃ x0, wr.cell? ⟨wo.heap.size, j, none⟩ = some x0 := ⟨_, by rw [row_cell hrow]; exact List.getElem?_eq_getElem (by rw [hlen8]; exact hj8)⟩
            have hfz := row_free hrow j
            by_cases e1 : j < b1.length
            · have d3 : decide ((j : Int) < b1.length) = true := decide_eq_true (by omega)
              have d3' : decide (j < b1.length) = true := decide_eq_true e1
              have e1' : (j : Int) < b1.length := by omega
              have hx : b1[j]? = some b1[j] := List.getElem?_eq_getElem e1
              obtain ⟨gb, ob, rfl, hgb, hcb⟩ := (H1.out.kept (HW.out.mod.trans HM.out)).at_ (by omega)
              have hcj := hcb j _ hx
              have hfit := H1.out.fit
              have HX : Hid ((wantTo (ordW b0 b1) j).set j b1[j] = wantTo (ordW b0 b1) (j + 1)) := wantTo_set (ordW_len b0 b1) hj8 (by rw [ordW_at b0 b1 hj8, if_pos e1, List.getD_eq_getElem?_getD, hx]; rfl)
              generalize b1[j] = x at hcj HX
              clear hx hcb hm hrow hlen8
              go_wp2_with fail
              go_roundw
              case rel =>
                refine ⟨j + 1, by omega, by go_num, ?_, wo, rfl, HW.out, HM.out.setCell (p := ⟨wo.heap.size, j, none⟩) (fun q => absurd q (Nat.lt_irrefl _)) _⟩
                have h3 := row_set HROW.out j (.int .u8 x)
                rw [← List.map_set, HX.out] at h3
                exact h3
              case measure => simp [intOf]; omega
            · have d3 : decide ((j : Int) < b1.length) = false := decide_eq_false (by omega)
              have d3' : decide (j < b1.length) = false := decide_eq_false e1
              by_cases e2 : j < b0.length
              · have d4 : decide ((j : Int) < b0.length) = true := decide_eq_true (by omega)
                have d4' : decide (j < b0.length) = true := decide_eq_true e2
                have e2' : (j : Int) < b0.length := by omega
                have hx : b0[j]? = some b0[j] := List.getElem?_eq_getElem e2
                obtain ⟨gb, ob, rfl, hgb, hcb⟩ := (H0.out.kept (HW.out.mod.trans HM.out)).at_ (by omega)
                have hcj := hcb j _ hx
                have hfit := H0.out.fit
                have HX : Hid ((wantTo (ordW b0 b1) j).set j b0[j] = wantTo (ordW b0 b1) (j + 1)) := wantTo_set (ordW_len b0 b1) hj8 (by rw [ordW_at b0 b1 hj8, if_neg e1, if_pos e2, List.getD_eq_getElem?_getD, hx]; rfl)
                generalize b0[j] = x at hcj HX
                clear hx hcb hm hrow hlen8
                go_wp2_with fail
                go_roundw
                case rel =>
                  refine ⟨j + 1, by omega, by go_num, ?_, wo, rfl, HW.out, HM.out.setCell (p := ⟨wo.heap.size, j, none⟩) (fun q => absurd q (Nat.lt_irrefl _)) _⟩
                  have h3 := row_set HROW.out j (.int .u8 x)
                  rw [← List.map_set, HX.out] at h3
                  exact h3
                case measure => simp [intOf]; omega
              · have d4 : decide ((j : Int) < b0.length) = false := decide_eq_false (by omega)
                have d4' : decide (j < b0.length) = false := decide_eq_false e2
                clear hm hrow hlen8 hx0 hfz
                go_wp2_with fail
                go_roundw
                case rel =>
                  refine ⟨j + 1, by omega, by go_num, ?_, wo, rfl, HW.out, HM.out⟩
                  rw [← wantTo_skip (ordW_len b0 b1) hj8 (by rw [ordW_at b0 b1 hj8, if_neg e1, if_neg e2])]
                  exact HROW.out
                case measure => simp [intOf]; omega
          · obtain rfl : j = 8 := by omega
            clear hrow hm
            have hrow8 := HROW.out
            rw [wantTo_all (ordW_len b0 b1)] at hrow8
            have HROW8 := Lib.hid hrow8
            have HV2 := Lib.hid (HW.out.no HM.out)
            have HWO : Hid (VwS w B F base top k i l [fiveFr] wo) := HW.out
            clear HROW HM HW hrow8
            have hRD := vread_ok 0 0 8 (ordFr b0 b1) wr HV2.out.p HV2.out.v HV2.out.F.2 ⟨by omega, by omega⟩ (by rw [HLL.out]; omega) ⟨by simp, by omega, by omega, by omega⟩ (by rw [HD1.out]; rfl)
            have HRD := Lib.hid hRD
            clear hRD
            go_wp2_with fail
            refine HRD.out.mono ?_
            rintro e w5 ⟨g, rfl, hg0, hg1, hrow5, ho⟩
            rw [HD1.out] at ho
            rw [show ((8 : Int).toNat) = 8 from rfl, ord_take (by omega) (by omega)] at hrow5
            have HV5 := Lib.hid (HV2.out.step ho)
            have hwF : wo.heap.size ≠ F ∧ wo.heap.size ≠ k.V := by
              have h1 := HWO.out.p.ltF
              have h2 := lt_of_blk HWO.out.v.head
              omega
            have hrw5 := ho.mod.blk HROW8.out (fun q => q.elim hwF.1 hwF.2)
            have hv1 : (convert 31 9 (.slice (some ⟨g, 0, none⟩) 8 8)).run Try.prog w5 = .ok (.string (strOfNums (ordW b0 b1))) w5 := conv_row hrow5 0 8 8 _ (by rw [List.drop_zero, List.take_of_length_le (by rw [ordW_len]; omega)]) (by rw [ordW_len]; omega)
            have hv2 : (convert 31 9 (.slice (some ⟨wo.heap.size, 0, none⟩) 8 8)).run Try.prog w5 = .ok (.string (strOfNums (ordW b0 b1))) w5 := conv_row hrw5 0 8 8 _ (by rw [List.drop_zero, List.take_of_length_le (by rw [ordW_len]; omega)]) (by rw [ordW_len]; omega)
            have hmk := make_eight w5
            have hwr := write_in 0 0 (some ⟨w5.heap.size, 0, none⟩) 8 8 zero8 (ordFr b0 b1) (w5.alloc (.cells zCells 5)) (HV5.out.p.alloc _) rfl ⟨by simp, by omega, by omega, by omega⟩ rfl (by simp [ordFr, fiveFr]) (Src.row (by rw [← zCells_eq]; exact heap_alloc_new w5 _) (by
              intro x hx
              have := (List.mem_replicate.1 hx).2
              omega))
            have HWR := Lib.hid (vwrite_any (V := k.V) (B := B) 0 0 (some ⟨w5.heap.size, 0, none⟩) 8 8 (w5.alloc (.cells zCells 5)) ((HV5.out.no ((Mod.refl No w5).alloc _)).v.c0.1) hwr)
            have HV6 := Lib.hid (HV5.out.no ((Mod.refl No w5).alloc (.cells zCells 5)))
            clear ho hrw5 hrow5 hwr HROW8 HWO HV5 HV2
            go_wp2_with fail
            refine HWR.out.mono ?_
            rintro e w6 ⟨rfl, hm6, hp6⟩
            have HV7 := Lib.hid (HV6.out.step (N' := (i : Int) + 1) (S' := [{ ordFr b0 b1 with bytes := splice (ordFr b0 b1).bytes (0 : Int).toNat zero8 }]) ⟨hm6.mono (fun _ _ q => .inl q), hp6, HV6.out.v.kept hm6 (fun j hj _ (q : j = F) => by have := HV6.out.F.2; omega)⟩)
            clear hm6 hp6 HV6 HWR hv1 hv2 hmk
            have HRD := Lib.hid (vread_ok 0 0 8 { ordFr b0 b1 with bytes := splice (ordFr b0 b1).bytes (0 : Int).toNat zero8 } w6 HV7.out.p HV7.out.v HV7.out.F.2 ⟨by omega, by omega⟩ (by rw [HLL.out]; omega) ⟨by simp, by omega, by omega, by omega⟩ (by rw [HDN.out _ (by omega)]; rfl))
            go_wp2_with fail
            refine HRD.out.mono ?_
            rintro e w7 ⟨g7, rfl, hg0, hg1, hrow7, ho⟩
            rw [HDN.out _ (by omega)] at ho
            rw [show ((8 : Int).toNat) = 8 from rfl, ord_wiped b0 b1] at hrow7
            have HV8 := Lib.hid (HV7.out.step ho)
            have hmk := make_eight w7.drew
            have hmz : (w7.alloc (.cells zCells 5)).drew.heap[w7.heap.size]? = some (.cells (zero8.map (Value.int .u8)).toArray 5 (0, 0)) := by rw [← zCells_eq]; exact heap_alloc_new w7 _
            have hc1 := conv_zero (w := w7.drew) hrow7
            have hc2 := conv_zero (w := (w7.alloc (.cells zCells 5)).drew) (blk_alloc hrow7 _)
            have hc3 := conv_zero hmz
            have hsz : w7.drew.heap.size = w7.heap.size := rfl
            rw [hsz] at hmk
            have HRS : Hid (Calls Try.prog 27 #[.pointer (some ⟨k.V, 0, none⟩)] (w7.alloc (.cells zCells 5)).drew fun e w' => e = .returned (.int .i64 0) ∧ Mod No (w7.alloc (.cells zCells 5)).drew w') :=
              (vrest_in _ (HV8.out.no (((Mod.refl No w7).alloc _).drew)).v (by rw [HLL.out]; omega)).mono fun e w' q => ⟨by rw [q.1, HDR.out _ (by omega)]; rfl, q.2⟩
            clear ho hsz hmz HV7 HRD
            go_wp2_with fail
            go_region_with (go_at_call 27; refine HRS.out.mono ?_; rintro e w8 ⟨rfl, hm8⟩)
            all_goals go_wp2
            all_goals go_ret
            all_goals exact ⟨rfl, (HV8.out.no ((((Mod.refl No w7).alloc _).drew).trans hm8)).mod⟩

end Go.Proofs.Ytpfjpfepbhfmeaa
