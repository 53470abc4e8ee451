/- path.Name, tenementref09.Name: one answer. -/
import Derived.Test.YthchkhfnhhpleaaDoorModBase
import Derived.Test.YthchkhfnhhpleaaDoorPathName
import Derived.Deep.Cut
import Derived.Lib.Strings
namespace Go.Proofs.YthchkhfnhhpleaaDoor
open Go.RowKit
set_option maxRecDepth 100000

theorem decodeN_big (n b0 b1 b2 b3 : Nat) (h : 128 ≤ b0) : 128 ≤ (Lib.decodeN n b0 b1 b2 b3).1 := by
  unfold Lib.decodeN
  rw [if_neg (by omega)]
  repeat' split
  all_goals (simp only; omega)
theorem byte_get (s : ByteArray) (i : Nat) (h : i < s.size) : s.get! i = s[i]'h := by
  show s.data[i]! = _
  rw [getElem!_pos s.data i h]
  rfl
theorem decode_let (s : ByteArray) (i : Nat) (h : i < s.size) (hb : letN (s[i]'h).toNat = false) : letR ((Utf8.decode s i).1 : Int) = false := by
  rw [letR_N]
  by_cases c : (s[i]'h).toNat < 128
  · rw [decode_ascii s i h c]; exact hb
  · have h1 : 128 ≤ (Utf8.decode s i).1 := by
      rw [Lib.decode_at]
      exact decodeN_big _ _ _ _ _ (by rw [byte_get s i h]; omega)
    by_cases d : letN (Utf8.decode s i).1 = true
    · have := (letN_lt d).1; omega
    · simpa using d

theorem Mod.iterAt {P : Nat → Prop} {a w : World} (h : Mod P a w) {k : Nat} (hk : ¬ k < a.heap.size) (s : ByteArray) (pos : Nat) : Mod P a (w.iterAt k s pos) :=
  h.step (Q := One k) ⟨rfl, rfl, rfl, by simp [World.iterAt], fun j hj hn => by
    have hn' : k ≠ j := fun e => hn e.symm
    simp [World.iterAt, hn']⟩ (fun i hi q => absurd (q ▸ hi) hk)

theorem drop_at (s : ByteArray) (i : Nat) (h : i < s.size) : s.data.toList.drop i = s[i]'h :: s.data.toList.drop (i + 1) := by
  have hl : i < s.data.toList.length := by simpa using h
  rw [List.drop_eq_getElem_cons hl]
  congr 1

set_option maxHeartbeats 4000000 in
theorem name_any (s : ByteArray) (w : World) (hs : s.size ≤ 140737488355328) :
    Calls Tryd.prog 15 #[.string s] w fun e w' => e = .returned (.tuple #[.int .i64 ((nameR s.data.toList).1 : Int), .int .i64 ((nameR s.data.toList).2 : Int)]) ∧ Mod No w w' := by
  obtain ⟨L, hL⟩ : ∃ L, L = s.data.toList := ⟨_, rfl⟩
  rw [← hL]
  have HL := Lib.hid hL
  clear hL
  have HI0 : Hid ((w.alloc (.stringIter s 0)).heap[w.heap.size]? = some (.stringIter s 0)) := heap_alloc_new w _
  have HM0 : Hid (Mod No w (w.alloc (.stringIter s 0))) := (Mod.refl No w).alloc _
  go_enter Tryd.func15, Tryd.ntmps15
  go_wp2_with fail
  go_loopw [4] (fun v wr => ∃ i : Nat, v = .int .i64 i ∧ i ≤ s.size ∧ i ≤ 32 ∧ nameScan 0 L = nameScan i (L.drop i) ∧ wr.heap[w.heap.size]? = some (.stringIter s i) ∧ Mod No w wr) (fun v _ => s.size - (intOf v).toNat)
  case atStart => exact ⟨0, rfl, by omega, by omega, rfl, HI0.out, HM0.out⟩
  case round =>
    clear HI0 HM0
    obtain ⟨i, rfl, hi, hi32, hsc, hit, hm⟩ := hrel
    by_cases hlt : i < s.size
    · obtain ⟨b, hb⟩ : ∃ b, b = s[i]'hlt := ⟨_, rfl⟩
      have hd : L.drop i = b :: L.drop (i + 1) := by rw [HL.out, hb]; exact drop_at s i hlt
      rw [hd] at hsc
      by_cases hlet : letN b.toNat = true
      · have hnx := fun ty => Lib.run_next_ascii_at (P := Tryd.prog) wr w.heap.size s i ty hit hlt (by rw [← hb]; exact (letN_lt hlet).1)
        rw [← hb] at hnx
        have hmy := fun w' => may_any (b.toNat : Int) w'
        rw [letR_N, hlet] at hmy
        have HMY := Lib.hid hmy
        have HM1 := Lib.hid (hm.iterAt (k := w.heap.size) (Nat.lt_irrefl _) s (i + 1))
        have HI1 := Lib.hid (Lib.iterAt_heap wr w.heap.size s i (i + 1) hit)
        rw [nameScan, if_pos hlet] at hsc
        by_cases h32 : i = 32
        · subst h32
          rw [if_pos rfl] at hsc
          have hne : L ≠ [] := fun e => by rw [e] at hd; simp at hd
          have HR : Hid (nameR L = (32, 2)) := by unfold nameR; rw [if_neg hne]; exact hsc
          clear hmy hsc hd hm hne hb hit hlet hlt
          go_wp2_with (go_at_call 30; refine (HMY.out _).mono ?_; rintro e w' ⟨rfl, rfl⟩)
          go_ret2
          rw [HR.out]
          exact ⟨rfl, HM1.out⟩
        · rw [if_neg h32] at hsc
          have e32 : ((i : Int) == 32) = false := beq_eq_false_iff_ne.2 (by omega)
          have HSC := Lib.hid hsc
          clear hmy hsc hd hm hb hit hlet
          go_wp2_with (go_at_call 30; refine (HMY.out _).mono ?_; rintro e w' ⟨rfl, rfl⟩)
          go_roundw
          case rel => exact ⟨i + 1, by go_num, by omega, by omega, HSC.out, HI1.out, HM1.out⟩
          case measure => simp [intOf]; omega
      · have hlet' : letN b.toNat = false := by simpa using hlet
        have hnx := fun ty => Lib.run_next_any_at (P := Tryd.prog) wr w.heap.size s i ty hit hlt
        have hmy := fun w' => may_any ((Utf8.decode s i).1 : Int) w'
        rw [decode_let s i hlt (by rw [← hb]; exact hlet')] at hmy
        have HMY := Lib.hid hmy
        have HM1 := Lib.hid (hm.iterAt (k := w.heap.size) (Nat.lt_irrefl _) s (i + (Utf8.decode s i).2))
        rw [nameScan, if_neg hlet] at hsc
        have hne : L ≠ [] := fun e => by rw [e] at hd; simp at hd
        have HR : Hid (nameR L = (i, 90)) := by unfold nameR; rw [if_neg hne]; exact hsc
        generalize (Utf8.decode s i).1 = dc at hnx HMY
        generalize (Utf8.decode s i).2 = dw at hnx HM1
        clear hmy hsc hd hm hne hb hit hlet hlet' hlt
        go_wp2_with (go_at_call 30; refine (HMY.out _).mono ?_; rintro e w' ⟨rfl, rfl⟩)
        go_ret2
        rw [HR.out]
        exact ⟨rfl, HM1.out⟩
    · have hie : i = s.size := by omega
      have hnx := fun ty => Lib.run_next_end_at (P := Tryd.prog) wr w.heap.size s i ty hit hlt
      have hd : L.drop i = [] := by rw [HL.out, hie]; exact List.drop_of_length_le (by simp)
      rw [hd] at hsc
      have hLl : L.length = s.size := by rw [HL.out]; simp
      by_cases h0 : i = 0
      · have HR : Hid (nameR L = (0, 90)) := by
          unfold nameR
          rw [if_pos (List.eq_nil_of_length_eq_zero (by omega))]
          rfl
        have e0 : ((i : Int) == 0) = true := by rw [h0]; rfl
        clear hsc hd hit h0 hie hLl
        go_wp2_with fail
        go_ret2
        rw [HR.out]
        exact ⟨rfl, hm⟩
      · have e0 : ((i : Int) == 0) = false := beq_eq_false_iff_ne.2 (by omega)
        have HR : Hid (nameR L = (0, 0)) := by unfold nameR; rw [if_neg (fun e => by rw [e] at hLl; simp at hLl; omega)]; exact hsc
        clear hsc hd hit
        go_wp2_with fail
        go_ret2
        rw [HR.out]
        exact ⟨rfl, hm⟩

theorem toList_emp (s : ByteArray) : s.toList.isEmpty = decide (s.size = 0) := by
  rw [Lib.toList_data]
  have h : s.data.toList.length = s.size := by simp
  generalize s.data.toList = l at h
  cases l with
  | nil => rw [decide_eq_true (by simpa using h.symm)]; rfl
  | cons a l => rw [decide_eq_false (by simp at h; omega)]; rfl

set_option maxHeartbeats 4000000 in
theorem rname_any (s : ByteArray) (w : World) (hs : s.size ≤ 140737488355328) :
    Calls Tryd.prog 16 #[.string s] w fun e w' => e = .returned (.tuple #[.int .i64 ((nameR s.data.toList).1 : Int), .int .i64 ((nameR s.data.toList).2 : Int)]) ∧ w = w' := by
  obtain ⟨L, hL⟩ : ∃ L, L = s.data.toList := ⟨_, rfl⟩
  rw [← hL]
  have HL := Lib.hid hL
  have hLl : L.length = s.size := by rw [hL]; simp
  clear hL
  by_cases hz : s.size = 0
  · have hLn : L = [] := List.eq_nil_of_length_eq_zero (by omega)
    have HR : Hid (nameR L = (0, 90)) := by unfold nameR; rw [if_pos hLn]; rfl
    have he : s.toList.isEmpty = true := by rw [toList_emp, hz]; rfl
    clear hLn
    go_enter Tryd.func16, Tryd.ntmps16
    go_wp2_with fail
    go_ret2
    rw [HR.out]
    exact ⟨rfl, rfl⟩
  have hne : L ≠ [] := fun e => by rw [e] at hLl; simp at hLl; omega
  have he : s.toList.isEmpty = false := by rw [toList_emp]; exact decide_eq_false hz
  have HN : Hid (nameR L = nameScan 0 L) := by unfold nameR; rw [if_neg hne]; rfl
  clear hne hz
  go_enter Tryd.func16, Tryd.ntmps16
  go_wp2_with fail
  go_loopw [4] (fun v wr => ∃ i : Nat, v = .int .i64 i ∧ i ≤ s.size ∧ i ≤ 32 ∧ nameScan 0 L = nameScan i (L.drop i) ∧ wr = w) (fun v _ => s.size - (intOf v).toNat)
  case atStart => exact ⟨0, rfl, by omega, by omega, rfl, rfl⟩
  case round =>
    obtain ⟨i, rfl, hi, hi32, hsc, rfl⟩ := hrel
    by_cases hlt : i < s.size
    · have hlt' : (i : Int) < s.size := by omega
      obtain ⟨b, hb⟩ : ∃ b, b = s[i]'hlt := ⟨_, rfl⟩
      have hd : L.drop i = b :: L.drop (i + 1) := by rw [HL.out, hb]; exact drop_at s i hlt
      rw [hd] at hsc
      have hmy := fun w' => letter_any (b.toNat : Int) w'
      rw [letR_N] at hmy
      rw [hb] at hmy
      by_cases hlet : letN b.toNat = true
      · rw [← hb, hlet] at hmy
        rw [hb] at hmy
        have HMY := Lib.hid hmy
        rw [nameScan, if_pos hlet] at hsc
        by_cases h32 : i = 32
        · rw [if_pos h32] at hsc
          have e32 : ((i : Int) == 32) = true := by rw [h32]; rfl
          have HR : Hid (nameR L = (i, 2)) := HN.out.trans hsc
          clear hmy hsc hd hb hlet h32
          go_wp2_with (go_at_call 31; refine (HMY.out _).mono ?_; rintro e w' ⟨rfl, rfl⟩)
          go_ret2
          rw [HR.out]
          exact ⟨rfl, rfl⟩
        · rw [if_neg h32] at hsc
          have e32 : ((i : Int) == 32) = false := beq_eq_false_iff_ne.2 (by omega)
          have HSC := Lib.hid hsc
          clear hmy hsc hd hb hlet
          go_wp2_with (go_at_call 31; refine (HMY.out _).mono ?_; rintro e w' ⟨rfl, rfl⟩)
          go_roundw
          case rel => exact ⟨i + 1, by go_num, by omega, by omega, HSC.out, by trivial⟩
          case measure => simp [intOf]; omega
      · have hlet' : letN b.toNat = false := by simpa using hlet
        rw [← hb, hlet'] at hmy
        rw [hb] at hmy
        have HMY := Lib.hid hmy
        rw [nameScan, if_neg hlet] at hsc
        have HR : Hid (nameR L = (i, 90)) := HN.out.trans hsc
        clear hmy hsc hd hb hlet hlet'
        go_wp2_with (go_at_call 31; refine (HMY.out _).mono ?_; rintro e w' ⟨rfl, rfl⟩)
        go_ret2
        rw [HR.out]
        exact ⟨rfl, rfl⟩
    · have hie : i = s.size := by omega
      have hlt' : ¬ (i : Int) < s.size := by omega
      have hd : L.drop i = [] := by rw [HL.out, hie]; exact List.drop_of_length_le (by simp)
      rw [hd] at hsc
      have HR : Hid (nameR L = (0, 0)) := HN.out.trans hsc
      clear hsc hd hie hLl
      go_wp2_with fail
      go_ret2
      rw [HR.out]
      exact ⟨rfl, rfl⟩

end Go.Proofs.YthchkhfnhhpleaaDoor
