/- tenementlaw04.begin: both machines, with tables. -/
import Derived.Test.YtpfjpfepbhfmeaaBothG
import Derived.Test.YtpfjpfepbhfmeaaOpenPutD
namespace Go.Proofs.Ytpfjpfepbhfmeaa
open Go.RowKit
set_option maxRecDepth 100000

/-- Frame number i of a machine that was begun: its last three bytes tell i. -/
def begFr (i : Nat) : Fr := { ownFr with bytes := splice ownFr.bytes 253 [(i : Int) + 1, (i : Int) + 2, (i : Int) + 3] }
def begTo (N i : Nat) : List Fr := (List.range i).map begFr ++ List.replicate (N - i) ownFr

theorem begTo_len {N i : Nat} (h : i ≤ N) : (begTo N i).length = N := by simp [begTo]; omega
theorem begTo_at {N i : Nat} (h : i < N) : (begTo N i)[i]? = some ownFr := by
  unfold begTo
  rw [List.getElem?_append_right (by simp), List.length_map, List.length_range, Nat.sub_self, List.getElem?_replicate, if_pos (show 0 < N - i by omega)]
theorem begTo_set {N i : Nat} (h : i < N) : (begTo N i).set i (begFr i) = begTo N (i + 1) := by
  unfold begTo
  rw [List.set_append_right _ _ (by simp), List.length_map, List.length_range, Nat.sub_self, show N - i = (N - (i + 1)) + 1 by omega, List.replicate_succ, List.set_cons_zero, List.range_succ, List.map_append, List.append_assoc]
  rfl
theorem inv_beg (m i : Nat) : (begFr i).inv m := ⟨fun q => absurd q (by simp [begFr, ownFr]), by simp [begFr, ownFr], by simp [begFr, ownFr, freeFr], by simp [begFr, ownFr, freeFr], by simp [begFr, ownFr, freeFr]⟩
theorem invS_begTo (m N i : Nat) : invS m (begTo N i) := by
  intro f hf
  rcases List.mem_append.1 hf with q | q
  · obtain ⟨j, _, rfl⟩ := List.mem_map.1 q; exact inv_beg m j
  · rw [(List.mem_replicate.1 q).2]; exact inv_own m

/-- Write(i, 253, three bytes), in both. -/
theorem begTo_write {N i : Nat} (h : i < N) (hN : N ≤ 8) :
    (∀ w B F p c, PhM w B F (begTo N i) → Src w p [(i : Int) + 1, (i : Int) + 2, (i : Int) + 3] → Calls Try.prog 18 #[.pointer (some ⟨B, 0, none⟩), .int .i64 i, .int .i64 253, .slice p 3 c] w (POut B F (.int .i64 0) (begTo N (i + 1)) w)) ∧
    (∀ w K b c, RfM w K (begTo N i) → ¬ K.inn b → 3 ≤ c → (∀ j x, [(i : Int) + 1, (i : Int) + 2, (i : Int) + 3][j]? = some x → w.cell? ⟨b, 0 + j, none⟩ = some (.int .u8 x)) →
      Calls Try.prog 79 #[.pointer (some ⟨K.R, 0, none⟩), .int .i64 i, .int .i64 253, .slice (some ⟨b, 0, none⟩) 3 c] w (ROut K (.int .i64 0) (begTo N (i + 1)) w)) := by
  have hin : InP (begTo N i) i 253 (3 : Nat) := ⟨⟨by omega, by rw [begTo_len (by omega)]; omega⟩, by omega, by omega, by omega⟩
  have hf : (begTo N i)[((i : Nat) : Int).toNat]? = some ownFr := by rw [Int.toNat_natCast]; exact begTo_at h
  have hr : ∀ x ∈ [(i : Int) + 1, (i : Int) + 2, (i : Int) + 3], 0 ≤ x ∧ x ≤ 255 := by
    intro x hx
    simp only [List.mem_cons, List.not_mem_nil, or_false] at hx
    rcases hx with rfl | rfl | rfl <;> omega
  refine ⟨fun w B F p c hP hs => ?_, fun w K b c hR hb hc hs => ?_⟩
  · have := write_in i 253 p 3 c [(i : Int) + 1, (i : Int) + 2, (i : Int) + 3] ownFr w hP rfl hin hf (by decide) hs
    rw [Int.toNat_natCast] at this
    have e := begTo_set h
    unfold begFr at e
    rw [show ((253 : Int).toNat) = 253 from rfl, e] at this
    exact this
  · have := rwrite_in i 253 (some ⟨b, 0, none⟩) 3 c [(i : Int) + 1, (i : Int) + 2, (i : Int) + 3] ownFr w hR rfl hin hf (by decide) hr (fun _ => ⟨b, 0, rfl, hb, hc, hs⟩)
    rw [Int.toNat_natCast] at this
    have e := begTo_set h
    unfold begFr at e
    rw [show ((253 : Int).toNat) = 253 from rfl, e] at this
    exact this.mono fun e w' q => ROut.inn q

theorem three_mod {w : World} {a b c : Int} (t : TypeId) : Mod No w (w.alloc (.cells #[.int .u8 a, .int .u8 b, .int .u8 c] t)) := (Mod.refl No w).alloc _

set_option maxHeartbeats 8000000 in
theorem begin4_in (N : Nat) (hN1 : 1 ≤ N) (hN2 : N ≤ 8) (p : Option Addr) (ops : List PutD) (cap : Nat) (w : World) (hs : PutDS w p ops) (hlen : ops.length * 24 ≤ 140737488355328) :
    Calls Try.prog 34 #[.int .i64 (N : Int), .slice p ops.length cap] w fun e w' => ∃ B F K S, e = .returned (.tuple #[.pointer (some ⟨B, 0, none⟩), .pointer (some ⟨K.R, 0, none⟩), .bool true]) ∧ RoundS w B F N 0 K S w' ∧ (ops = [] → S = begTo N N) := by
  have HS := Lib.hid hs; clear hs
  go_enter Try.func34, Try.ntmps34
  go_wp2_with fail
  refine (new_in N _ hN1 (by omega)).mono ?_
  rintro e w1 ⟨B, F, rfl, hB, hF, hm1, hP1⟩
  go_wp2_with fail
  refine (rnew_in N _ hN1 (by omega)).mono ?_
  rintro e w2 ⟨K0, rfl, hK, hm2, hR2⟩
  have hm12 := hm1.trans hm2
  have hs1 := hm1.size
  have h0 : RoundS w B F N 0 K0 (upTo N 0) w2 := by
    have e : upTo N 0 = List.replicate N freeFr := by simp [upTo]
    rw [e]
    exact ⟨⟨hP1.kept hm2 (fun q => q) (fun q => q), hR2, invS_new _ _⟩, by simp, hm12, hF, fun k hk => by have := hK k hk; omega⟩
  obtain ⟨R0, hR0⟩ : ∃ R0, R0 = K0.R := ⟨_, rfl⟩
  rw [← hR0]
  have HR0 := Lib.hid hR0
  have H0 := Lib.hid h0
  clear hR0 h0 hP1 hR2 hm1 hm2 hm12 hK hB hF
  go_wp2_with fail
  go_loopw [11] (fun v wr => ∃ i : Nat, i ≤ N ∧ v = .int .i64 i ∧ ∃ K, RoundS w B F N 0 K (upTo N i) wr ∧ K.R = R0) (fun v _ => N - (intOf v).toNat)
  case atStart => exact ⟨0, Nat.zero_le _, rfl, K0, H0.out, HR0.out.symm⟩
  case round =>
    obtain ⟨i, hi, rfl, K, hrd, hKR⟩ := hrel
    by_cases hlt : i < N
    · have hlt' : (i : Int) < N := by omega
      obtain ⟨hA, hRA⟩ := upTo_alloc hlt
      have HA := Lib.hid (hA wr B F hrd.two.p)
      have hq : ∀ w3, Mod (One F) wr w3 → Calls Try.prog 69 #[.pointer (some ⟨K.R, 0, none⟩), .int .i64 0] w3 (ROut K (.tuple #[.int .i64 i, .int .i64 0]) (upTo N (i + 1)) w3) :=
        fun w3 hm => hRA w3 K (hrd.two.r.kept hm (fun k hk (e : k = F) => (hrd.two.r.ne_phys hrd.two.p).2 (e ▸ hk)))
      rw [hKR] at hq
      have HQ := Lib.hid hq
      have HRD := Lib.hid hrd
      have HKR := Lib.hid hKR
      clear hA hRA hq hrd hKR
      go_wp2_with fail
      refine HA.out.mono ?_
      rintro e w3 hpo
      have HPO := Lib.hid hpo
      obtain ⟨rfl, hm3, _⟩ := hpo
      go_wp2_with fail
      refine (HQ.out _ hm3).mono ?_
      rintro e w4 hro
      obtain ⟨K', hrd', hK'⟩ := HRD.out.pair (Mod.refl No wr) HPO.out hro (invS_upTo 0 N (i + 1)) (by rw [upTo_len (by omega), upTo_len (by omega)])
      obtain ⟨_, rfl, _⟩ := hro
      have HRD' := Lib.hid hrd'
      have HK' := Lib.hid (hK'.trans HKR.out)
      clear hm3 HPO HQ HA hrd' hK'
      go_wp2
      go_roundw
      case rel => exact ⟨i + 1, by omega, by go_num, K', HRD'.out, HK'.out⟩
      case measure => simp [intOf]; omega
    · obtain rfl : i = N := by omega
      have hb0 : RoundS w B F i 0 K (begTo i 0) wr := by
        have e : begTo i 0 = upTo i i := by simp [begTo, upTo]
        rw [e]; exact hrd
      have HB0 := Lib.hid hb0
      have HKR := Lib.hid hKR
      clear hb0 hrd hKR
      go_wp2_with fail
      go_loopw [12] (fun v wr => ∃ j : Nat, j ≤ i ∧ v = .int .i64 j ∧ ∃ K, RoundS w B F i 0 K (begTo i j) wr ∧ K.R = R0) (fun v _ => i - (intOf v).toNat)
      case atStart => exact ⟨0, Nat.zero_le _, rfl, K, HB0.out, HKR.out⟩
      case round =>
        clear H0 HB0 HKR hN1
        obtain ⟨j, hj, rfl, K, hrd, hKR⟩ := hrel
        by_cases hlt : j < i
        · have hlt' : (j : Int) < i := by omega
          obtain ⟨hW, hRW⟩ := begTo_write hlt hN2
          have hal : Mod No wr (wr.alloc (.cells #[.int .u8 ((j : Int) + 1), .int .u8 ((j : Int) + 2), .int .u8 ((j : Int) + 3)] 5)) := (Mod.refl No wr).alloc _
          have hg : (wr.alloc (.cells #[.int .u8 ((j : Int) + 1), .int .u8 ((j : Int) + 2), .int .u8 ((j : Int) + 3)] 5)).heap[wr.heap.size]? = some (.cells (([(j : Int) + 1, (j : Int) + 2, (j : Int) + 3] : List Int).map (Value.int .u8)).toArray 5 (0, 0)) := heap_alloc_new wr _
          have hlF := hrd.two.p.ltF
          have HW := Lib.hid (hW _ B F (some ⟨wr.heap.size, 0, none⟩) 3 (hrd.two.p.kept hal (fun q => q) (fun q => q)) (Src.row hg (by
            intro x hx
            simp only [List.mem_cons, List.not_mem_nil, or_false] at hx
            rcases hx with rfl | rfl | rfl <;> omega)))
          have hq : ∀ w3, Mod (One F) (wr.alloc (.cells #[.int .u8 ((j : Int) + 1), .int .u8 ((j : Int) + 2), .int .u8 ((j : Int) + 3)] 5)) w3 → Calls Try.prog 79 #[.pointer (some ⟨K.R, 0, none⟩), .int .i64 j, .int .i64 253, .slice (some ⟨wr.heap.size, 0, none⟩) 3 3] w3 (ROut K (.int .i64 0) (begTo i (j + 1)) w3) := by
            intro w3 hm
            refine hRW w3 K wr.heap.size 3 ((hrd.two.r.keptNo hal).kept hm (fun k hk (e : k = F) => (hrd.two.r.ne_phys hrd.two.p).2 (e ▸ hk))) ?_ (by omega) ?_
            · intro q
              have := hrd.two.r.lt _ (RfK.inn_has q)
              omega
            · intro y x hx
              have h3 := hm.blk hg (fun (q : wr.heap.size = F) => by omega)
              rw [Nat.zero_add, row_cell h3, List.getElem?_map, hx]; rfl
          rw [hKR] at hq
          have HQ := Lib.hid hq
          have HRD := Lib.hid hrd
          have HKR := Lib.hid hKR
          have HAL := Lib.hid hal
          clear hW hRW hq hrd hKR hal hg
          go_wp2_with fail
          refine HW.out.mono ?_
          rintro e w3 hpo
          have HPO := Lib.hid hpo
          obtain ⟨rfl, hm3, _⟩ := hpo
          go_wp2_with fail
          refine (HQ.out _ hm3).mono ?_
          rintro e w4 hro
          obtain ⟨K', hrd', hK'⟩ := HRD.out.pair HAL.out HPO.out hro (invS_begTo 0 i (j + 1)) (by rw [begTo_len (by omega), begTo_len (by omega)])
          obtain ⟨_, rfl, _⟩ := hro
          have HRD' := Lib.hid hrd'
          have HK' := Lib.hid (hK'.trans HKR.out)
          clear hm3 HPO HQ HW HAL hrd' hK'
          go_wp2
          go_roundw
          case rel => exact ⟨j + 1, by omega, by go_num, K', HRD'.out, HK'.out⟩
          case measure => simp [intOf]; omega
        · obtain rfl : j = i := by omega
          have HRD := Lib.hid hrd
          have HKR := Lib.hid hKR
          clear hrd hKR
          go_wp2_with fail
          go_loopw [14] (fun v wr => ∃ k : Nat, k ≤ ops.length ∧ v = .int .i64 k ∧ ∃ K S, RoundS w B F j 0 K S wr ∧ K.R = R0 ∧ (k = 0 → S = begTo j j)) (fun v _ => ops.length - (intOf v).toNat)
          case atStart => exact ⟨0, Nat.zero_le _, rfl, K, _, HRD.out, HKR.out, fun _ => rfl⟩
          case round =>
            clear HRD HKR
            obtain ⟨k, hk, rfl, K, S, hrd, hKR, hz⟩ := hrel
            by_cases hlt : k < ops.length
            · obtain ⟨o, ho⟩ : ∃ o, ops[k]? = some o := ⟨_, List.getElem?_eq_getElem hlt⟩
              have hscr := HS.out.kept hrd.mod
              obtain ⟨sb, so, rfl, hsb0, _⟩ := HS.out.cellsAt ho
              obtain ⟨_, _, e2, _, c0, c1, c2⟩ := hscr.cellsAt ho
              cases e2
              have hv := bounds_u32 (HS.out.ok o (List.mem_of_getElem? ho)).w_value
              have htm : -63 ≤ o.index.tmod 64 ∧ o.index.tmod 64 ≤ 63 := by
                have h1 := Int.tmod_lt_of_pos o.index (b := 64) (by decide)
                have h2 := Int.lt_tmod_of_pos o.index (b := 64) (by decide)
                omega
              have hal : Mod No wr (wr.alloc (.cells #[.int .u8 (o.value % 256), .int .u8 (o.value / 256 % 256), .int .u8 (o.value / 65536 % 256), .int .u8 (o.value / 16777216)] 5)) := (Mod.refl No wr).alloc _
              have hg : (wr.alloc (.cells #[.int .u8 (o.value % 256), .int .u8 (o.value / 256 % 256), .int .u8 (o.value / 65536 % 256), .int .u8 (o.value / 16777216)] 5)).heap[wr.heap.size]? = some (.cells (([o.value % 256, o.value / 256 % 256, o.value / 65536 % 256, o.value / 16777216] : List Int).map (Value.int .u8)).toArray 5 (0, 0)) := heap_alloc_new wr _
              have hr : ∀ x ∈ [o.value % 256, o.value / 256 % 256, o.value / 65536 % 256, o.value / 16777216], 0 ≤ x ∧ x ≤ 255 := by
                intro x hx
                simp only [List.mem_cons, List.not_mem_nil, or_false] at hx
                rcases hx with rfl | rfl | rfl | rfl <;> omega
              have hlF := hrd.two.p.ltF
              obtain ⟨r, S', hl', hI', hW, hRW⟩ := both_write 0 S o.table (4 * (o.index.tmod 64 % 64)) _ hr hrd.two.inv
              have HW : Hid (Calls Try.prog 18 #[.pointer (some ⟨B, 0, none⟩), .int .i64 o.table, .int .i64 (4 * (o.index.tmod 64 % 64)), .slice (some ⟨wr.heap.size, 0, none⟩) 4 4] (wr.alloc (.cells #[.int .u8 (o.value % 256), .int .u8 (o.value / 256 % 256), .int .u8 (o.value / 65536 % 256), .int .u8 (o.value / 16777216)] 5)) (POut B F (.int .i64 r) S' _)) := Lib.hid (hW _ B F (some ⟨wr.heap.size, 0, none⟩) 4 (hrd.two.p.kept hal (fun q => q) (fun q => q)) (Src.row hg hr))
              have hq : ∀ w3, Mod (One F) (wr.alloc (.cells #[.int .u8 (o.value % 256), .int .u8 (o.value / 256 % 256), .int .u8 (o.value / 65536 % 256), .int .u8 (o.value / 16777216)] 5)) w3 → Calls Try.prog 79 #[.pointer (some ⟨K.R, 0, none⟩), .int .i64 o.table, .int .i64 (4 * (o.index.tmod 64 % 64)), .slice (some ⟨wr.heap.size, 0, none⟩) 4 4] w3 (ROut K (.int .i64 r) S' w3) := by
                intro w3 hm
                refine hRW w3 K (some ⟨wr.heap.size, 0, none⟩) 4 ((hrd.two.r.keptNo hal).kept hm (fun k hk (e : k = F) => (hrd.two.r.ne_phys hrd.two.p).2 (e ▸ hk))) (fun _ => ⟨wr.heap.size, 0, rfl, ?_, by simp, ?_⟩)
                · intro q
                  have := hrd.two.r.lt _ (RfK.inn_has q)
                  omega
                · intro y x hx
                  have h3 := hm.blk hg (fun (q : wr.heap.size = F) => by omega)
                  rw [Nat.zero_add, row_cell h3, List.getElem?_map, hx]; rfl
              rw [hKR] at hq
              have HQ := Lib.hid hq
              have HRD := Lib.hid hrd
              have HKR := Lib.hid hKR
              have HAL := Lib.hid hal
              have HL' := Lib.hid hl'
              have HI' := Lib.hid hI'
              have x0 := (World.cell?_of_block (w := wr) (hal.block sb (World.block_lt_of_cell? wr _ c0) (fun q => q))).trans c0
              have x1 := (World.cell?_of_block (w := wr) (hal.block sb (World.block_lt_of_cell? wr _ c1) (fun q => q))).trans c1
              have hsb := World.block_lt_of_cell? wr _ c0
              have HSF : Hid (sb ≠ F) := fun q => by have := hrd.F; omega
              clear hW hRW hq hrd hKR hal hl' hI' hscr hr hz ho
              go_wp2_with fail
              refine HW.out.mono ?_
              rintro e w3 hpo
              have HPO := Lib.hid hpo
              obtain ⟨rfl, hm3, _⟩ := hpo
              have c03 := (World.cell?_of_block (w := (wr.alloc (.cells #[.int .u8 (o.value % 256), .int .u8 (o.value / 256 % 256), .int .u8 (o.value / 65536 % 256), .int .u8 (o.value / 16777216)] 5))) (hm3.block sb (by simp; omega) HSF.out)).trans x0
              go_wp2_with fail
              refine (HQ.out _ hm3).mono ?_
              rintro e w4 hro
              obtain ⟨K', hrd', hK'⟩ := HRD.out.pair HAL.out HPO.out hro HI'.out HL'.out
              obtain ⟨_, rfl, _⟩ := hro
              have HRD' := Lib.hid hrd'
              have HK' := Lib.hid (hK'.trans HKR.out)
              clear hm3 HPO HQ HW HAL hrd' hK' c03
              go_wp2
              go_roundw
              case rel => exact ⟨k + 1, by omega, by go_num, K', S', HRD'.out, HK'.out, fun q => absurd q (Nat.succ_ne_zero k)⟩
              case measure => simp [intOf]; omega
            · obtain rfl : k = ops.length := by omega
              have HRD := Lib.hid hrd
              have HKR := Lib.hid hKR
              have HZ := Lib.hid hz
              clear hrd hKR hz
              go_wp2
              go_ret3
              exact ⟨B, F, K, S, by rw [HKR.out]; rfl, HRD.out, fun q => HZ.out (by rw [q]; rfl)⟩

end Go.Proofs.Ytpfjpfepbhfmeaa
