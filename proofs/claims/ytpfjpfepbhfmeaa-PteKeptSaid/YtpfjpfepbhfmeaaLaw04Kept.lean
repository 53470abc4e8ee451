/- tenementlaw04.PteKept: the walk. -/
import Derived.Test.YtpfjpfepbhfmeaaLaw04Begin
import Derived.Test.YtpfjpfepbhfmeaaPteKeep
import Derived.Test.YtpfjpfepbhfmeaaLaw04Awake
namespace Go.Proofs.Ytpfjpfepbhfmeaa
open Go.RowKit
set_option maxRecDepth 100000

def fourB (x : Int) : List Int := [x % 256, x / 256 % 256, x / 65536 % 256, x / 16777216]
theorem fourB_range {x : Int} (h0 : 0 ≤ x) (h1 : x ≤ 4294967295) : ∀ y ∈ fourB x, 0 ≤ y ∧ y ≤ 255 := by
  intro y hy
  simp only [fourB, List.mem_cons, List.not_mem_nil, or_false] at hy
  rcases hy with rfl | rfl | rfl | rfl <;> omega

/-- put. -/
theorem put_in {B F : Nat} {S : List Fr} (t i : Nat) (x : Int) (f : Fr) (w : World) (h : PhM w B F S) (hf : S[t]? = some f) (hi : i < 64) (ho : f.owner ≠ -1) (h0 : 0 ≤ x) (h1 : x ≤ 4294967295) :
    Calls Try.prog 46 #[.pointer (some ⟨B, 0, none⟩), .int .i64 t, .int .i64 i, .int .u32 x] w fun e w' => (∃ v, e = .returned v) ∧ Mod (One F) w w' ∧ PhM w' B F (S.set t { f with bytes := splice f.bytes (4 * i) (fourB x) }) := by
  have htl := (List.getElem?_eq_some_iff.1 hf).1
  have hal : Mod No w (w.alloc (.cells #[.int .u8 (x % 256), .int .u8 (x / 256 % 256), .int .u8 (x / 65536 % 256), .int .u8 (x / 16777216)] 5)) := (Mod.refl No w).alloc _
  have hg : (w.alloc (.cells #[.int .u8 (x % 256), .int .u8 (x / 256 % 256), .int .u8 (x / 65536 % 256), .int .u8 (x / 16777216)] 5)).heap[w.heap.size]? = some (.cells ((fourB x).map (Value.int .u8)).toArray 5 (0, 0)) := heap_alloc_new w _
  have hw := write_in t (4 * (i : Int)) (some ⟨w.heap.size, 0, none⟩) 4 4 (fourB x) f _ (h.kept hal (fun q => q) (fun q => q)) rfl ⟨⟨by omega, by omega⟩, by omega, by omega, by omega⟩ (by rw [Int.toNat_natCast]; exact hf) ho (Src.row hg (fourB_range h0 h1))
  rw [Int.toNat_natCast, show (4 * (i : Int)).toNat = 4 * i by omega] at hw
  have HW := Lib.hid hw
  have HAL := Lib.hid hal
  clear hw hal hg h hf
  go_enter Try.func46, Try.ntmps46
  go_wp2_with fail
  refine HW.out.mono ?_
  rintro e w3 ⟨rfl, hm3, hP3⟩
  go_wp2
  go_end0
  exact ⟨⟨_, rfl⟩, (Mod.of_no HAL.out).trans hm3, hP3⟩

theorem begTo_at8 {i : Nat} (h : i < 8) : (begTo 8 8)[i]? = some (begFr i) := by
  unfold begTo
  rw [List.getElem?_append_left (by simpa using h), List.getElem?_map, List.getElem?_range h]; rfl

theorem begFr_own (i : Nat) : (begFr i).owner ≠ -1 := by simp [begFr, ownFr]
theorem begFr_ok {i : Nat} (h : i < 8) : (begFr i).ok := by
  have hb : (ownFr : Fr).ok := freeFr_ok
  exact hb.splice (by simp) (by
    intro x hx
    simp only [List.mem_cons, List.not_mem_nil, or_false] at hx
    rcases hx with rfl | rfl | rfl <;> omega)
theorem begFr_low {i : Nat} : (begFr i).bytes.getD 100 0 = 0 := by
  show (splice ownFr.bytes 253 _).getD 100 0 = 0
  rw [List.getD_eq_getElem?_getD, splice_at (by simp [ownFr, freeFr]) (by simp) 100 (by omega), if_neg (by simp)]
  simp [ownFr, freeFr]

/-- Frames 0 and 1 as the law leaves them. -/
def keptF (l2 l1 one two : Nat) : List Fr :=
  (((begTo 8 8).set 0 { begFr 0 with bytes := splice (begFr 0).bytes (4 * l2) (fourB 259) }).set 1 { begFr 1 with bytes := splice (begFr 1).bytes (4 * l1) (fourB ((one : Int) * 256 + 3)) }).set 1
    { begFr 1 with bytes := splice (splice (begFr 1).bytes (4 * l1) (fourB ((one : Int) * 256 + 3))) (4 * (l1 + 1)) (fourB ((two : Int) * 256 + 3)) }

theorem four_ent {m : Nat} (h : m < 256) : fourB ((m : Int) * 256 + 3) = [3, (m : Int), 0, 0] := by
  unfold fourB
  congr 1
  · omega
  · congr 1
    · omega
    · congr 1
      · omega
      · congr 1
        omega

theorem keptF_ok {l2 l1 one two : Nat} (ho : 2 ≤ one ∧ one < 8 ∧ 2 ≤ two ∧ two < 8) (hl : l2 < 64 ∧ l1 < 63) : KeptS (keptF l2 l1 one two) l2 l1 one two := by
  have h0 := begFr_ok (i := 0) (by omega)
  have h1 := begFr_ok (i := 1) (by omega)
  have r0 : ∀ y ∈ fourB 259, 0 ≤ y ∧ y ≤ 255 := fourB_range (by omega) (by omega)
  have r1 : ∀ y ∈ fourB ((one : Int) * 256 + 3), 0 ≤ y ∧ y ≤ 255 := fourB_range (by omega) (by omega)
  have r2 : ∀ y ∈ fourB ((two : Int) * 256 + 3), 0 ≤ y ∧ y ≤ 255 := fourB_range (by omega) (by omega)
  have hlen : (keptF l2 l1 one two).length = 8 := by unfold keptF; simp [begTo_len]
  have hb8 : (begTo 8 8).length = 8 := begTo_len (Nat.le_refl _)
  have g0 : (keptF l2 l1 one two)[0]? = some { begFr 0 with bytes := splice (begFr 0).bytes (4 * l2) (fourB 259) } := by
    unfold keptF
    rw [List.getElem?_set_ne (by omega), List.getElem?_set_ne (by omega), List.getElem?_set_self (by omega)]
  have g1 : (keptF l2 l1 one two)[1]? = some { begFr 1 with bytes := splice (splice (begFr 1).bytes (4 * l1) (fourB ((one : Int) * 256 + 3))) (4 * (l1 + 1)) (fourB ((two : Int) * 256 + 3)) } := by
    unfold keptF
    rw [List.getElem?_set_self (by simp; omega)]
  have g2 : ∀ i, 2 ≤ i → i < 8 → (keptF l2 l1 one two)[i]? = some (begFr i) := by
    intro i a b
    unfold keptF
    rw [List.getElem?_set_ne (by omega), List.getElem?_set_ne (by omega), List.getElem?_set_ne (by omega), begTo_at8 b]
  have hall : ∀ (i : Nat) (f : Fr), (keptF l2 l1 one two)[i]? = some f → f.ok ∧ f.owner ≠ -1 := by
    intro i f hf
    have hil := (List.getElem?_eq_some_iff.1 hf).1
    rw [hlen] at hil
    match i, hil with
    | 0, _ =>
      rw [g0] at hf; rw [← Option.some.inj hf]
      exact ⟨h0.splice (by simp [fourB]; omega) r0, begFr_own 0⟩
    | 1, _ =>
      rw [g1] at hf; rw [← Option.some.inj hf]
      exact ⟨Fr.ok.splice (f := { begFr 1 with bytes := splice (begFr 1).bytes (4 * l1) (fourB ((one : Int) * 256 + 3)) }) (h1.splice (by simp [fourB]; omega) r1) (by simp [fourB]; omega) r2, begFr_own 1⟩
    | i + 2, hil =>
      rw [g2 (i + 2) (by omega) hil] at hf; rw [← Option.some.inj hf]
      exact ⟨begFr_ok hil, begFr_own _⟩
  refine ⟨fun f hf => ?_, hlen, fun i f hf => (hall i f hf).2, ⟨_, g0, ?_⟩, ⟨_, g1, ?_, ?_⟩, ?_, ho, hl⟩
  · obtain ⟨i, hi⟩ := List.getElem?_of_mem hf
    exact (hall i f hi).1
  · have e : ∀ j, j < 4 → (splice (begFr 0).bytes (4 * l2) (fourB 259))[4 * l2 + j]? = (fourB 259)[j]? := by
      intro j hj
      rw [splice_at h0.1 (by simp [fourB]; omega) _ (by omega), if_pos (by simp [fourB]; omega)]
      congr 1; omega
    exact win4 (e 0 (by omega)) (e 1 (by omega)) (e 2 (by omega)) (e 3 (by omega))
  · have hl1 := splice_len (bs := fourB ((one : Int) * 256 + 3)) (o := 4 * l1) h1.1 (by simp [fourB]; omega)
    have e : ∀ j, j < 4 → (splice (splice (begFr 1).bytes (4 * l1) (fourB ((one : Int) * 256 + 3))) (4 * (l1 + 1)) (fourB ((two : Int) * 256 + 3)))[4 * l1 + j]? = (fourB ((one : Int) * 256 + 3))[j]? := by
      intro j hj
      rw [splice_at hl1 (by simp [fourB]; omega) _ (by omega), if_neg (by omega), splice_at h1.1 (by simp [fourB]; omega) _ (by omega), if_pos (by simp [fourB]; omega)]
      congr 1; omega
    rw [four_ent (by omega)] at e ⊢
    exact win4 (e 0 (by omega)) (e 1 (by omega)) (e 2 (by omega)) (e 3 (by omega))
  · have hl1 := splice_len (bs := fourB ((one : Int) * 256 + 3)) (o := 4 * l1) h1.1 (by simp [fourB]; omega)
    have e : ∀ j, j < 4 → (splice (splice (begFr 1).bytes (4 * l1) (fourB ((one : Int) * 256 + 3))) (4 * (l1 + 1)) (fourB ((two : Int) * 256 + 3)))[4 * (l1 + 1) + j]? = (fourB ((two : Int) * 256 + 3))[j]? := by
      intro j hj
      rw [splice_at hl1 (by simp [fourB]; omega) _ (by omega), if_pos (by simp [fourB]; omega)]
      congr 1; omega
    rw [four_ent (show two < 256 by omega)] at e ⊢
    exact win4 (e 0 (by omega)) (e 1 (by omega)) (e 2 (by omega)) (e 3 (by omega))
  · intro i a b _ _
    unfold byteAt
    simp only [Int.toNat_natCast]
    rw [g2 i a b]
    exact begFr_low

theorem conv_byt {w : World} {q : Option Addr} {bs : List Int} {c : Nat} (h : Byt w q bs c) : (convert 31 9 (.slice q bs.length c)).run Try.prog w = .ok (.string (strOfNums bs)) w := by
  by_cases h0 : 0 < bs.length
  · obtain ⟨b, off, rfl, hlt, hc⟩ := h.at_ h0
    refine run_convert_bytes_arg w 31 5 Try.underlying31 Try.underlying5 b off bs.length c bs rfl (fun i hi => ?_) 9 Try.underlying9
    rw [hc i bs[i] (List.getElem?_eq_getElem hi), List.getD_eq_getElem?_getD, List.getElem?_eq_getElem hi]
    rfl
  · obtain rfl : bs = [] := List.eq_nil_of_length_eq_zero (by omega)
    cases q <;> rfl

set_option maxHeartbeats 8000000 in
theorem ptekept_any (va : Int) (q : Option Addr) (bs : List Int) (bc : Nat) (q2 : Option Addr) (fs : List Int) (fc : Nat) (w : World) (hva : 0 ≤ va ∧ va ≤ 4294967295) (hb : Byt w q bs bc) (hf : Byt w q2 fs fc) :
    Calls Try.prog 8 #[.int .u32 va, .slice q bs.length bc, .slice q2 fs.length fc] w fun e w' => e = .returned (.bool true) ∧ Mod No w w' := by
  have HB := Lib.hid (begin4_in 8 (by omega) (by omega) none [] 0 w ⟨fun o ho => absurd ho (by simp), fun h => absurd h (by simp)⟩ (by simp))
  have HBY := Lib.hid hb
  have HBF := Lib.hid hf
  have hbl := hb.len
  have hfl := hf.len
  clear hb hf
  go_enter Try.func8, Try.ntmps8
  go_wp2_with fail
  refine HB.out.mono ?_
  rintro e w1 ⟨B, F, K, S, rfl, hrd, hS⟩
  obtain rfl := hS (by first | rfl | trivial)
  have HRD := Lib.hid hrd
  obtain ⟨R, hR⟩ : ∃ R, R = K.R := ⟨_, rfl⟩
  rw [← hR]
  clear hR hrd hS HB
  have ha0 : 0 ≤ va % 1048576 := by omega
  have ha1 : va % 1048576 < 1048576 := by omega
  obtain ⟨a, ha⟩ : ∃ a : Nat, (a : Int) = va % 1048576 := ⟨(va % 1048576).toNat, by omega⟩
  rw [← ha] at ha0 ha1
  go_wp2_with fail
  rw [← ha]
  refine (rsplit_yes (a : Int) w1 ha0 ha1).mono ?_
  rintro e w2 ⟨rfl, rfl⟩
  obtain ⟨l2, hl2⟩ : ∃ l2 : Nat, (l2 : Int) = (a : Int) / 16384 := ⟨a / 16384, by omega⟩
  obtain ⟨l1, hl1⟩ : ∃ l1 : Nat, (l1 : Int) = (a : Int) / 256 % 64 := ⟨a / 256 % 64, by omega⟩
  obtain ⟨off, hoff⟩ : ∃ off : Nat, (off : Int) = (a : Int) % 256 := ⟨a % 256, by omega⟩
  rw [← hl2, ← hl1, ← hoff]
  have HA := Lib.hid (⟨ha, hl2, hl1, hoff⟩ : _ ∧ _ ∧ _ ∧ _)
  have hlt : l2 < 64 ∧ off < 256 ∧ l1 < 64 := by omega
  clear ha hl2 hl1 hoff
  by_cases c1 : 256 < bs.length
  · have d1 : decide (256 < (bs.length : Int)) = true := decide_eq_true (by omega)
    go_wp2_with (go_at_call 39; refine (awake4 _).mono ?_; rintro e w' ⟨rfl, hm⟩)
    go_ret
    exact ⟨rfl, HRD.out.mod.trans hm⟩
  have d1 : decide (256 < (bs.length : Int)) = false := decide_eq_false (by omega)
  by_cases c2 : l1 = 63
  · subst c2
    go_wp2_with (go_at_call 39; refine (awake4 _).mono ?_; rintro e w' ⟨rfl, hm⟩)
    go_ret
    exact ⟨rfl, HRD.out.mod.trans hm⟩
  have d2 : ((l1 : Int) == 63) = false := beq_eq_false_iff_ne.2 (by omega)
  have d2' : (l1 == 63) = false := beq_eq_false_iff_ne.2 c2
  have d3 : decide (512 < (off : Int) + (bs.length : Int)) = false := decide_eq_false (by omega)
  have hfs : 1 < fs.length → ∃ b o f0 f1, q2 = some ⟨b, o, none⟩ ∧ (0 ≤ f0 ∧ f0 ≤ 255) ∧ (0 ≤ f1 ∧ f1 ≤ 255) ∧ w1.cell? ⟨b, o, none⟩ = some (.int .u8 f0) ∧ w1.cell? ⟨b, o + 1, none⟩ = some (.int .u8 f1) := by
    intro h1
    obtain ⟨b, o, rfl, hlb, hc⟩ := (HBF.out.kept HRD.out.mod).at_ (by omega)
    have e0 : fs[0]? = some fs[0] := List.getElem?_eq_getElem (by omega)
    have e1 : fs[1]? = some fs[1] := List.getElem?_eq_getElem (by omega)
    exact ⟨b, o, _, _, rfl, HBF.out.range _ (List.mem_of_getElem? e0), HBF.out.range _ (List.mem_of_getElem? e1), by have := hc 0 _ e0; rwa [Nat.add_zero] at this, hc 1 _ e1⟩
  have HFS := Lib.hid hfs
  clear hfs
  go_upto_if 55 with (fail)
  go_cut [15, 16] from 53 to 67 (fun v1 v2 wx => ∃ one two : Nat, v1 = .int .i64 one ∧ v2 = .int .i64 two ∧ (2 ≤ one ∧ one < 8 ∧ 2 ≤ two ∧ two < 8) ∧ wx = w1)
  case first =>
    by_cases c4 : 1 < fs.length
    · have d4 : decide (1 < (fs.length : Int)) = true := decide_eq_true (by omega)
      have d4' : decide (1 < fs.length) = true := decide_eq_true c4
      have h2 : (1 : Int) < fs.length := by omega
      obtain ⟨b, o, f0, f1, rfl, r0, r1, x0, x1⟩ := HFS.out c4
      refine wp_cond_split rfl (fun h => ?_) (fun h => ?_)
      · clear h
        go_wp2_with fail
        go_meet
        exact ⟨(2 + f0 % 6).toNat, (2 + f1 % 6).toNat, by congr 1; omega, by congr 1; omega, by omega, rfl⟩
      · simp only [decide_eq_false_iff_not] at h
        exfalso; omega
    · have d4 : decide (1 < (fs.length : Int)) = false := decide_eq_false (by omega)
      have d4' : decide (1 < fs.length) = false := decide_eq_false c4
      refine wp_cond_split rfl (fun h => ?_) (fun h => ?_)
      · simp only [decide_eq_true_eq] at h
        exfalso; omega
      · clear h
        go_wp2_with fail
        go_meet
        exact ⟨2, 3, rfl, rfl, by omega, rfl⟩
  case rest =>
  obtain ⟨one, two, rfl, rfl, hot, hwc⟩ := hcut
  obtain rfl : w1 = wc := hwc.symm
  clear HFS
  have hS0 : PhM w1 B F (begTo 8 8) := HRD.out.two.p
  have hb8 : (begTo 8 8).length = 8 := begTo_len (Nat.le_refl _)
  have hK := keptF_ok (l2 := l2) (l1 := l1) hot ⟨hlt.1, by omega⟩
  have HK := Lib.hid hK
  have HP1 : Hid (Calls Try.prog 46 #[.pointer (some ⟨B, 0, none⟩), .int .i64 0, .int .i64 l2, .int .u32 259] w1 fun e w' => (∃ v, e = .returned v) ∧ Mod (One F) w1 w' ∧ PhM w' B F _) :=
    put_in 0 l2 259 (begFr 0) w1 hS0 (begTo_at8 (by omega)) (by omega) (begFr_own 0) (by omega) (by omega)
  have HP2 : Hid (∀ w', PhM w' B F _ → Calls Try.prog 46 #[.pointer (some ⟨B, 0, none⟩), .int .i64 1, .int .i64 l1, .int .u32 ((one : Int) * 256 + 3)] w' fun e w2 => (∃ v, e = .returned v) ∧ Mod (One F) w' w2 ∧ PhM w2 B F _) :=
    fun w' h => put_in (S := (begTo 8 8).set 0 { begFr 0 with bytes := splice (begFr 0).bytes (4 * l2) (fourB 259) }) 1 l1 ((one : Int) * 256 + 3) (begFr 1) w' h (by rw [List.getElem?_set_ne (by omega)]; exact begTo_at8 (by omega)) (by omega) (begFr_own 1) (by omega) (by omega)
  have HP3 : Hid (∀ w', PhM w' B F _ → Calls Try.prog 46 #[.pointer (some ⟨B, 0, none⟩), .int .i64 1, .int .i64 ((l1 : Int) + 1), .int .u32 ((two : Int) * 256 + 3)] w' fun e w2 => (∃ v, e = .returned v) ∧ Mod (One F) w' w2 ∧ PhM w2 B F (keptF l2 l1 one two)) :=
    fun w' h => put_in (S := ((begTo 8 8).set 0 { begFr 0 with bytes := splice (begFr 0).bytes (4 * l2) (fourB 259) }).set 1 { begFr 1 with bytes := splice (begFr 1).bytes (4 * l1) (fourB ((one : Int) * 256 + 3)) }) 1 (l1 + 1) ((two : Int) * 256 + 3) _ w' h
      (List.getElem?_set_self (by simp; omega)) (by omega) (begFr_own 1) (by omega) (by omega)
  have HF := Lib.hid HRD.out.F
  clear hS0 hb8 hK
  go_wp2_with fail
  refine HP1.out.mono ?_
  rintro e w2 ⟨⟨v2, rfl⟩, hm2, hp2⟩
  go_wp2_with fail
  refine (HP2.out w2 hp2).mono ?_
  rintro e w3 ⟨⟨v3, rfl⟩, hm3, hp3⟩
  go_wp2_with fail
  refine (HP3.out w3 hp3).mono ?_
  rintro e w4 ⟨⟨v4, rfl⟩, hm4, hp4⟩
  have HM4 : Hid (Mod (One F) w1 w4) := (hm2.trans hm3).trans hm4
  have HP4 := Lib.hid hp4
  clear hm2 hm3 hm4 hp2 hp3 hp4 HP1 HP2 HP3
  have hback := HK.out.back (a : Int) bs ⟨HA.out.2.1.symm, HA.out.2.2.1.symm⟩ (by omega) HBY.out.range
  obtain ⟨hs0, hk4, hf0, hfb⟩ := hback
  have hav : 1 ≤ bs.length → (a : Int) + bs.length ≤ 1048576 := fun _ => by have := HA.out.2; omega
  have HAV := Lib.hid hav
  have hm14 : Mod No w w4 := HRD.out.mod.step HM4.out (fun i hi (e : i = F) => by have := HF.out; omega)
  have HM14 := Lib.hid hm14
  have HST := Lib.hid (store_in 0 (a : Int) q bs bc w4 HP4.out (by omega) (by omega) hav (HBY.out.kept hm14) (fun b off hz e => by
    subst e
    obtain ⟨b', o', e', hlb, _⟩ := HBY.out.at_ hz
    cases e'
    have := HF.out; omega))
  have HS0 := Lib.hid hs0
  have HK4 := Lib.hid hk4
  have HF0 := Lib.hid hf0
  have HFB := Lib.hid hfb
  clear hs0 hk4 hf0 hfb hav hm14
  go_wp2_with fail
  refine HST.out.mono ?_
  rintro e w5 (⟨q9, _⟩ | ⟨_, rfl, hm5, hp5⟩)
  · exact absurd HS0.out q9
  obtain ⟨S4, hS4⟩ : ∃ S4, S4 = putsTo (plcs (keptF l2 l1 one two) 0 (a : Int) true bs.length) bs (keptF l2 l1 one two) bs.length := ⟨_, rfl⟩
  rw [← hS4] at HK4 HF0 HFB hp5
  have HM15 : Hid (Mod No w w5) := HM14.out.step hm5 (fun i hi (e : i = F) => by have := HF.out; omega)
  have HP5 := Lib.hid hp5
  have HFT := Lib.hid (fetch_in 0 (a : Int) bs.length w5 hp5 (by omega) (by omega) HAV.out)
  clear hS4 hm5 hp5 HST
  go_wp2_with fail
  refine HFT.out.mono ?_
  rintro e w6 ⟨hm6, ⟨q9, _⟩ | ⟨_, q6, c6, rfl, ho6⟩⟩
  · exact absurd HF0.out q9
  have HM16 : Hid (Mod No w w6) := HM15.out.trans hm6
  have HP6 : Hid (PhM w6 B F S4) := HP5.out.kept hm6 (fun q => q) (fun q => q)
  have hv1 : (convert 31 9 (.slice q6 bs.length c6)).run Try.prog w6 = .ok (.string (strOfNums bs)) w6 := by
    rw [HFB.out] at ho6
    exact conv_own ho6
  have hv2 : (convert 31 9 (.slice q bs.length bc)).run Try.prog w6 = .ok (.string (strOfNums bs)) w6 := conv_byt (HBY.out.kept HM16.out)
  clear hm6 ho6 HFT
  obtain ⟨bb, hbb⟩ : ∃ bb, ((one : Int) != two) = bb := ⟨_, rfl⟩
  have hbb' : (one != two) = bb := by rw [← hbb]; rw [Bool.eq_iff_iff, bne_iff_ne, bne_iff_ne]; omega
  go_upto_region 19 with (fail)
  cases bb
  all_goals
    go_wp2_with fail
    go_loopw [19] (fun v wr => ∃ i : Nat, 2 ≤ i ∧ i ≤ 8 ∧ v = .int .i64 i ∧ Mod No w6 wr) (fun v _ => 8 - (intOf v).toNat)
    case atStart => exact ⟨2, by omega, by omega, rfl, Mod.refl _ _⟩
    case round =>
      clear hbb hbb' hv1 hv2
      obtain ⟨i, hi2, hi8, rfl, hm⟩ := hrel
      have HM := Lib.hid hm
      clear hm
      by_cases hi : i < 8
      · have hi' : (i : Int) < 8 := by omega
        obtain ⟨f, hf⟩ : ∃ f, S4[i]? = some f := ⟨_, List.getElem?_eq_getElem (by rw [HK4.out.len]; exact hi)⟩
        have hrd := read_one ((i : Int), 100) wr (HP6.out.kept HM.out (fun q => q) (fun q => q)) ⟨⟨by omega, by rw [HK4.out.len]; omega⟩, by omega, by omega⟩
        have HRDD := Lib.hid hrd
        obtain ⟨x, hx⟩ : ∃ x, x = byteAt S4 ((i : Int), 100) := ⟨_, rfl⟩
        rw [← hx] at HRDD
        have hz : i ≠ one → i ≠ two → x = 0 := fun a b => by rw [hx]; exact HK4.out.low i hi2 hi a b
        have HZ := Lib.hid hz
        clear hrd hf hx hz
        obtain ⟨b1, h1⟩ : ∃ b1, ((i : Int) != one) = b1 := ⟨_, rfl⟩
        have h1' : (i != one) = b1 := by rw [← h1]; rw [Bool.eq_iff_iff, bne_iff_ne, bne_iff_ne]; omega
        obtain ⟨b2, h2⟩ : ∃ b2, ((i : Int) != two) = b2 := ⟨_, rfl⟩
        have h2' : (i != two) = b2 := by rw [← h2]; rw [Bool.eq_iff_iff, bne_iff_ne, bne_iff_ne]; omega
        go_wp2_with fail
        refine HRDD.out.mono ?_
        rintro e w7 ⟨rfl, hm7, _, hg7⟩
        have hx0 := cell_of_one hg7
        have HM7 := Lib.hid (HM.out.trans hm7)
        clear hm7 hg7
        cases b1
        · cases b2
          · go_wp2_with fail
            go_roundw
            case rel => exact ⟨i + 1, by omega, by omega, by go_num, HM7.out⟩
            case measure => simp [intOf]; omega
          · go_wp2_with fail
            go_roundw
            case rel => exact ⟨i + 1, by omega, by omega, by go_num, HM7.out⟩
            case measure => simp [intOf]; omega
        · cases b2
          · go_wp2_with fail
            go_roundw
            case rel => exact ⟨i + 1, by omega, by omega, by go_num, HM7.out⟩
            case measure => simp [intOf]; omega
          · obtain rfl : x = 0 := HZ.out (bne_iff_ne.1 h1') (bne_iff_ne.1 h2')
            go_wp2_with fail
            go_roundw
            case rel => exact ⟨i + 1, by omega, by omega, by go_num, HM7.out⟩
            case measure => simp [intOf]; omega
      · obtain rfl : i = 8 := by omega
        have hfin := HM16.out.trans HM.out
        go_wp2_with (go_at_call 39; refine (awake4 _).mono ?_; rintro e w' ⟨rfl, hm9⟩)
        go_ret
        exact ⟨rfl, hfin.trans hm9⟩

end Go.Proofs.Ytpfjpfepbhfmeaa
