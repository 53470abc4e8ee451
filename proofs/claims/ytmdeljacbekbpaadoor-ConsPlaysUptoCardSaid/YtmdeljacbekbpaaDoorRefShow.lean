/- The document's Show. -/
import Derived.Test.YtmdeljacbekbpaaDoorRefLetter2
namespace Go.Proofs.YtmdeljacbekbpaaDoor
open Go.RowKit
set_option maxRecDepth 100000

theorem bytL_at {bs : List Int} (hr : ∀ x ∈ bs, 0 ≤ x ∧ x ≤ 255) {j : Nat} (hj : j < bs.length) : ∃ c : Nat, bs[j]? = some (c : Int) ∧ c < 256 ∧ (bytL bs)[j]? = some (UInt8.ofNat c) := by
  have h := hr _ (List.mem_of_getElem? (List.getElem?_eq_getElem hj))
  refine ⟨(bs[j]).toNat, ?_, by omega, ?_⟩
  · rw [List.getElem?_eq_getElem hj]; congr 1; omega
  · unfold bytL; rw [List.getElem?_map, List.getElem?_eq_getElem hj]; rfl

theorem bytL_drop (bs : List Int) (i : Nat) : bytL (bs.drop i) = (bytL bs).drop i := by unfold bytL; rw [List.map_drop]
theorem bytL_take (bs : List Int) (i : Nat) : bytL (bs.take i) = (bytL bs).take i := by unfold bytL; rw [List.map_take]

theorem dec_wid2 {l : List UInt8} {i : Nat} (h : i < l.length) : 1 ≤ (dec (l.drop i)).2 ∧ i + (dec (l.drop i)).2 ≤ l.length ∧ showR (l.drop i) = piece (l.drop i) ++ showR (l.drop (i + (dec (l.drop i)).2)) ∧ (piece (l.drop i)).length ≤ 4 * (dec (l.drop i)).2 := by
  have e := List.drop_eq_getElem_cons h
  have hw := dec_width (l[i]) (l.drop (i + 1))
  have h1 := showR_cons (l[i]) (l.drop (i + 1))
  have h2 := piece_len (l[i]) (l.drop (i + 1))
  rw [← e] at hw h1 h2
  rw [List.length_drop] at hw
  rw [List.drop_drop] at h1
  exact ⟨hw.1, by omega, h1, h2⟩

set_option maxHeartbeats 8000000 in
theorem refshow_any (q : Option Addr) (bs : List Int) (cap : Nat) (w : World) (hb : Byt w q bs cap) (hl : 4 * bs.length ≤ 140737488355328) :
    Calls Tryd.prog 10 #[.slice q bs.length cap] w fun e w' => e = .returned (.string ⟨(showR (bytL bs)).toArray⟩) ∧ Mod No w w' := by
  have HBY := Lib.hid hb
  have hfit := hb.fit
  clear hb
  go_enter Tryd.func10, Tryd.ntmps10
  go_wp2_with fail
  go_loopw [3, 4] (fun vs vi wx => ∃ (i : Nat) (st : ByteArray), vs = .string st ∧ vi = .int .i64 i ∧ i ≤ bs.length ∧ st.data.toList ++ showR ((bytL bs).drop i) = showR (bytL bs) ∧ st.size ≤ 4 * i ∧ Mod No w wx) (fun _ vi _ => bs.length - (intOf vi).toNat)
  case atStart => exact ⟨0, ⟨#[]⟩, rfl, rfl, by omega, rfl, by simp [ByteArray.size], Mod.refl _ _⟩
  case round =>
    obtain ⟨i, st, rfl, rfl, hi, hacc, hsl, hmr⟩ := hrel
    by_cases hlt : i < bs.length
    · have hlt2 : (i : Int) < (bs.length : Int) := by omega
      have k0 : (0 : Int) ≤ (i : Int) := by omega
      have k1 : (i : Int) ≤ (bs.length : Int) := by omega
      have t6 : cap ≠ i := by omega
      obtain ⟨bq, off, rfl, hbq, hbc⟩ := HBY.out.at_ (by omega)
      have hrg := HBY.out.range
      have hcl : ∀ w', Mod No w w' → ∀ j x, bs[j]? = some x → w'.cell? ⟨bq, off + j, none⟩ = some (.int .u8 x) := fun w' hm j x hj => (World.cell?_of_block (w := w) (hm.block bq hbq (fun q => q))).trans (hbc j x hj)
      have HCL : Hid (∀ j, j < bs.length → ∀ w', Mod No w w' → ∃ c : Nat, w'.cell? ⟨bq, off + j, none⟩ = some (.int .u8 c) ∧ c < 256 ∧ (bytL bs)[j]? = some (UInt8.ofNat c)) := fun j hj w' hm => by
        obtain ⟨c, h1, h2, h3⟩ := bytL_at hrg hj
        exact ⟨c, hcl w' hm j _ h1, h2, h3⟩
      obtain ⟨v, k, hvk⟩ : ∃ v k, dec ((bytL bs).drop i) = (v, k) := ⟨_, _, rfl⟩
      obtain ⟨hk1, hk2, hsh, hpl⟩ := dec_wid2 (l := bytL bs) (i := i) (by rw [bytL_len]; exact hlt)
      rw [hvk, bytL_len] at hk2
      rw [hvk] at hk1 hsh hpl
      dsimp only at hk1 hk2 hsh hpl
      have hpc := piece_of hvk
      have hlet := lettR_dec (bs := bs.drop i) (fun x hx => hrg x (List.mem_of_mem_drop hx))
      rw [bytL_drop, hvk] at hlet
      have HLT : Hid (∀ w' q n c, w' = wr → q = some ⟨bq, off + i, none⟩ → n = bs.length - i → Calls Tryd.prog 30 #[.slice q n c] w' fun e w2 => e = .returned (.tuple #[.int .i64 (lettR (bs.drop i)).1, .int .i64 (lettR (bs.drop i)).2]) ∧ wr = w2) := fun w' q n c h1 h2 h3 => by
        subst h1; subst h2; subst h3
        have := refletter_any bq (off + i) c (bs.drop i) w' (by rw [List.length_drop]; omega) (by rw [List.length_drop]; omega) (fun x hx => hrg x (List.mem_of_mem_drop hx)) (fun j x hj => by
          rw [List.getElem?_drop] at hj
          rw [Nat.add_assoc]
          exact hcl w' hmr _ _ hj)
        rw [List.length_drop] at this
        exact this
      have HFIN : Hid (∀ w3 (st3 : ByteArray), Mod No w w3 → st3.data.toList = st.data.toList ++ piece ((bytL bs).drop i) → (∃ (i2 : Nat) (st2 : ByteArray), Value.string st3 = .string st2 ∧ Value.int .i64 ((i : Int) + (k : Int)) = .int .i64 i2 ∧ i2 ≤ bs.length ∧ st2.data.toList ++ showR ((bytL bs).drop i2) = showR (bytL bs) ∧ st2.size ≤ 4 * i2 ∧ Mod No w w3) ∧ bs.length - (intOf (Value.int .i64 ((i : Int) + (k : Int)))).toNat < bs.length - (intOf (Value.int .i64 (i : Int))).toNat) := fun w3 st3 h1 h2 => by
        refine ⟨⟨i + k, st3, rfl, by go_num, by omega, ?_, ?_, h1⟩, by simp [intOf]; omega⟩
        · rw [h2, List.append_assoc, ← hsh]; exact hacc
        · rw [Lib.size_eq, h2, List.length_append, ← Lib.size_eq]; omega
      have hcv : ∀ w' q n c, w' = wr → q = some ⟨bq, off + i, none⟩ → n = k → (convert 22 9 (.slice q n c)).run Tryd.prog w' = .ok (.string (strOfNums ((bs.drop i).take k))) w' := fun w' q n c h1 h2 h3 => by
        subst h1; subst h2; subst h3
        refine run_convert_bytes_arg w' _ _ Tryd.underlying22 Tryd.underlying5 bq (off + i) n c _ (by rw [List.length_take, List.length_drop]; omega) (fun j hj => ?_) _ Tryd.underlying9
        rw [List.getD_eq_getElem?_getD, List.getElem?_take_of_lt hj, List.getElem?_drop, List.getElem?_eq_getElem (by omega : i + j < bs.length), Nat.add_assoc]
        exact hcl w' hmr _ _ (List.getElem?_eq_getElem _)
      have HPC := Lib.hid hpc
      have HMR := Lib.hid hmr
      have hkn : k ≤ bs.length := by omega
      have m1 : IntKind.i64.wrap ((i : Int) + (k : Int)) = (i : Int) + (k : Int) := IntWalk.i64_in _ (by omega)
      have m2 : (i : Int) ≤ (i : Int) + (k : Int) := by omega
      have m3 : (i : Int) + (k : Int) ≤ (bs.length : Int) := by omega
      have m4 : ((i : Int) + (k : Int)).toNat = i + k := by omega
      have m5 : i + k - i = k := by omega
      have m6 : (i : Int) + (k : Int) ≤ (cap : Int) := by omega
      have m7 : i + k ≤ cap := by omega
      have m8 : i ≤ i + k := by omega
      have hsz9 : st.size ≤ 140737488355328 := by omega
      clear hpc hmr hsh hacc hcl hbc hrg hvk hpl
      by_cases cA : v = 65533 ∧ k = 1
      · rw [if_pos (by rw [cA.1, cA.2])] at hlet
        rw [hlet] at HLT
        have HE := Lib.hid ((HPC.out.trans (if_pos cA)).symm)
        have mx : max (0 : Int) 1 = (k : Int) := by rw [cA.2]; rfl
        clear hcv hlet cA
        go_upto_region 6 with (go_at_call 30; refine (HLT.out _ _ _ _ rfl rfl rfl).mono ?_; rintro e w2 ⟨rfl, rfl⟩)
        go_wp2_with fail
        go_loopw [3, 7] (fun vs vj wx => ∃ (j : Nat) (st2 : ByteArray), vs = .string st2 ∧ vj = .int .i64 j ∧ i ≤ j ∧ j ≤ i + k ∧ st2.data.toList = st.data.toList ++ hexs (((bytL bs).drop i).take (j - i)) ∧ Mod No w wx) (fun _ vj _ => i + k - (intOf vj).toNat)
        case atStart => exact ⟨i, st, rfl, rfl, by omega, by omega, by rw [Nat.sub_self]; simp [hexs], HMR.out⟩
        case round =>
          obtain ⟨j, st2, rfl, rfl, hj1, hj2, hst2, hmj⟩ := hrel
          by_cases hjk : j < i + k
          · have hjk2 : (j : Int) < (i : Int) + (k : Int) := by omega
            have hjl : j < bs.length := by omega
            have hjl2 : (j : Int) < (bs.length : Int) := by omega
            have hj0 : (0 : Int) ≤ (j : Int) := by omega
            obtain ⟨cj, hcj1, hcj2, hcj3⟩ := HCL.out j hjl _ hmj
            have HH := Lib.hid (refhex_any cj wr hcj2)
            have hs2 : st2.size = st.size + 4 * (j - i) := by
              rw [Lib.size_eq, hst2, List.length_append, hexs_len, List.length_take, List.length_drop, bytL_len, Lib.size_eq]; omega
            have n9 : ¬ (9223372036854775807 < st2.size + 4) := by omega
            have m9 : IntKind.i64.wrap ((j : Int) + 1) = (j : Int) + 1 := IntWalk.i64_in _ (by omega)
            have HST2 := Lib.hid hst2
            have HMJ := Lib.hid hmj
            clear hst2 hmj hs2
            go_wp2_with (go_at_call 31; refine HH.out.mono ?_; rintro e w5 ⟨rfl, hm5⟩)
            refine ⟨⟨j + 1, st2 ++ ⟨#[92, 120, hexD (cj / 16), hexD (cj % 16)]⟩, by first | trivial | rfl, by first | trivial | go_num, by omega, by omega, ?_, HMJ.out.trans hm5⟩, by simp [intOf]; omega⟩
            have e1 : j + 1 - i = (j - i) + 1 := by omega
            have e2 : ((bytL bs).drop i)[j - i]? = some (UInt8.ofNat cj) := by rw [List.getElem?_drop, show i + (j - i) = j by omega]; exact hcj3
            have e3 : (UInt8.ofNat cj).toNat = cj := by rw [UInt8.toNat_ofNat']; omega
            have e4 : (st2 ++ (⟨#[92, 120, hexD (cj / 16), hexD (cj % 16)]⟩ : ByteArray)).data.toList = st2.data.toList ++ [92, 120, hexD (cj / 16), hexD (cj % 16)] := by simp [ByteArray.data_append]
            rw [e1, List.take_add_one, e2, e4, HST2.out]
            show _ = st.data.toList ++ hexs (_ ++ [UInt8.ofNat cj])
            rw [hexs_snoc, e3, List.append_assoc]
          · obtain rfl : j = i + k := by omega
            have hjk2 : ¬ ((i + k : Nat) : Int) < (i : Int) + (k : Int) := by omega
            have hjk3 : ¬ (i : Int) + (k : Int) < (i : Int) + (k : Int) := by omega
            have HST2 := Lib.hid hst2
            have HMJ := Lib.hid hmj
            clear hst2 hmj
            go_wp2_with fail
            exact HFIN.out _ st2 HMJ.out (by rw [HST2.out, Nat.add_sub_cancel_left, HE.out])
      have hne : ¬ (v, k) = (65533, 1) := fun h => cA (by simpa using h)
      rw [if_neg hne] at hlet
      rw [hlet] at HLT
      clear hlet hne
      have kp : (0 : Int) < (k : Int) := by omega
      by_cases c2 : v = 92
      · obtain rfl := c2
        have HE := Lib.hid ((HPC.out.trans ((if_neg (fun h => absurd h.1 (by decide))).trans (if_pos rfl))).symm)
        have n9 : ¬ (9223372036854775807 < st.size + 2) := by omega
        have mx : max (k : Int) 1 = (k : Int) := by omega
        clear hcv
        go_wp2_with (go_at_call 30; refine (HLT.out _ _ _ _ rfl rfl rfl).mono ?_; rintro e w2 ⟨rfl, rfl⟩)
        exact HFIN.out _ (st ++ ⟨#[92, 92]⟩) HMR.out (by rw [← HE.out]; simp [ByteArray.data_append])
      by_cases c3 : v < 32
      · have n1 : ¬ (v : Int) = 92 := by omega
        have n3 : ¬ (32 : Int) ≤ (v : Int) := by omega
        have n7 : ¬ (160 : Int) ≤ (v : Int) := by omega
        have n5 : ¬ 32 ≤ v := by omega
        have n8 : ¬ 160 ≤ v := by omega
        have HE := Lib.hid ((HPC.out.trans ((if_neg cA).trans ((if_neg c2).trans (if_neg (fun h => h.elim (fun h => n5 h.1) n8))))).symm)
        have mx : max (k : Int) 1 = (k : Int) := by omega
        clear hcv
        go_upto_region 6 with (go_at_call 30; refine (HLT.out _ _ _ _ rfl rfl rfl).mono ?_; rintro e w2 ⟨rfl, rfl⟩)
        go_wp2_with fail
        go_loopw [3, 7] (fun vs vj wx => ∃ (j : Nat) (st2 : ByteArray), vs = .string st2 ∧ vj = .int .i64 j ∧ i ≤ j ∧ j ≤ i + k ∧ st2.data.toList = st.data.toList ++ hexs (((bytL bs).drop i).take (j - i)) ∧ Mod No w wx) (fun _ vj _ => i + k - (intOf vj).toNat)
        case atStart => exact ⟨i, st, rfl, rfl, by omega, by omega, by rw [Nat.sub_self]; simp [hexs], HMR.out⟩
        case round =>
          obtain ⟨j, st2, rfl, rfl, hj1, hj2, hst2, hmj⟩ := hrel
          by_cases hjk : j < i + k
          · have hjk2 : (j : Int) < (i : Int) + (k : Int) := by omega
            have hjl : j < bs.length := by omega
            have hjl2 : (j : Int) < (bs.length : Int) := by omega
            have hj0 : (0 : Int) ≤ (j : Int) := by omega
            obtain ⟨cj, hcj1, hcj2, hcj3⟩ := HCL.out j hjl _ hmj
            have HH := Lib.hid (refhex_any cj wr hcj2)
            have hs2 : st2.size = st.size + 4 * (j - i) := by
              rw [Lib.size_eq, hst2, List.length_append, hexs_len, List.length_take, List.length_drop, bytL_len, Lib.size_eq]; omega
            have n9 : ¬ (9223372036854775807 < st2.size + 4) := by omega
            have m9 : IntKind.i64.wrap ((j : Int) + 1) = (j : Int) + 1 := IntWalk.i64_in _ (by omega)
            have HST2 := Lib.hid hst2
            have HMJ := Lib.hid hmj
            clear hst2 hmj hs2
            go_wp2_with (go_at_call 31; refine HH.out.mono ?_; rintro e w5 ⟨rfl, hm5⟩)
            refine ⟨⟨j + 1, st2 ++ ⟨#[92, 120, hexD (cj / 16), hexD (cj % 16)]⟩, by first | trivial | rfl, by first | trivial | go_num, by omega, by omega, ?_, HMJ.out.trans hm5⟩, by simp [intOf]; omega⟩
            have e1 : j + 1 - i = (j - i) + 1 := by omega
            have e2 : ((bytL bs).drop i)[j - i]? = some (UInt8.ofNat cj) := by rw [List.getElem?_drop, show i + (j - i) = j by omega]; exact hcj3
            have e3 : (UInt8.ofNat cj).toNat = cj := by rw [UInt8.toNat_ofNat']; omega
            have e4 : (st2 ++ (⟨#[92, 120, hexD (cj / 16), hexD (cj % 16)]⟩ : ByteArray)).data.toList = st2.data.toList ++ [92, 120, hexD (cj / 16), hexD (cj % 16)] := by simp [ByteArray.data_append]
            rw [e1, List.take_add_one, e2, e4, HST2.out]
            show _ = st.data.toList ++ hexs (_ ++ [UInt8.ofNat cj])
            rw [hexs_snoc, e3, List.append_assoc]
          · obtain rfl : j = i + k := by omega
            have hjk2 : ¬ ((i + k : Nat) : Int) < (i : Int) + (k : Int) := by omega
            have hjk3 : ¬ (i : Int) + (k : Int) < (i : Int) + (k : Int) := by omega
            have HST2 := Lib.hid hst2
            have HMJ := Lib.hid hmj
            clear hst2 hmj
            go_wp2_with fail
            exact HFIN.out _ st2 HMJ.out (by rw [HST2.out, Nat.add_sub_cancel_left, HE.out])
      by_cases c4 : v ≤ 126
      · have n1 : ¬ (v : Int) = 92 := by omega
        have n3 : (32 : Int) ≤ (v : Int) := by omega
        have n4 : (v : Int) ≤ 126 := by omega
        have n5 : 32 ≤ v := by omega
        have n6 : v ≤ 126 := by omega
        have HE := Lib.hid ((HPC.out.trans ((if_neg cA).trans ((if_neg c2).trans (if_pos (.inl ⟨n5, n6⟩))))).symm)
        have hcv2 : ∀ c, (convert 22 9 (.slice (some ⟨bq, off + i, none⟩) k c)).run Tryd.prog wr = .ok (.string (strOfNums ((bs.drop i).take k))) wr := fun c => hcv wr _ _ c rfl rfl rfl
        have hsz8 : (strOfNums ((bs.drop i).take k)).size = k := by rw [strOfNums_size, List.length_take, List.length_drop]; omega
        have n9 : ¬ (9223372036854775807 < st.size + (strOfNums ((bs.drop i).take k)).size) := by omega
        have HS8 := Lib.hid hsz8
        clear hcv hsz8
        go_wp2_with (go_at_call 30; refine (HLT.out _ _ _ _ rfl rfl rfl).mono ?_; rintro e w2 ⟨rfl, rfl⟩)
        exact HFIN.out _ (st ++ strOfNums ((bs.drop i).take k)) HMR.out (by rw [← HE.out]; simp [ByteArray.data_append, strOfNums_l, bytL_take, bytL_drop])
      by_cases c5 : 160 ≤ v
      · have n1 : ¬ (v : Int) = 92 := by omega
        have n3 : (32 : Int) ≤ (v : Int) := by omega
        have n4 : ¬ (v : Int) ≤ 126 := by omega
        have n7 : (160 : Int) ≤ (v : Int) := by omega
        have n5 : 32 ≤ v := by omega
        have n6 : ¬ v ≤ 126 := by omega
        have n8 : 160 ≤ v := by omega
        have HE := Lib.hid ((HPC.out.trans ((if_neg cA).trans ((if_neg c2).trans (if_pos (.inr n8))))).symm)
        have hcv2 : ∀ c, (convert 22 9 (.slice (some ⟨bq, off + i, none⟩) k c)).run Tryd.prog wr = .ok (.string (strOfNums ((bs.drop i).take k))) wr := fun c => hcv wr _ _ c rfl rfl rfl
        have hsz8 : (strOfNums ((bs.drop i).take k)).size = k := by rw [strOfNums_size, List.length_take, List.length_drop]; omega
        have n9 : ¬ (9223372036854775807 < st.size + (strOfNums ((bs.drop i).take k)).size) := by omega
        have HS8 := Lib.hid hsz8
        clear hcv hsz8
        go_wp2_with (go_at_call 30; refine (HLT.out _ _ _ _ rfl rfl rfl).mono ?_; rintro e w2 ⟨rfl, rfl⟩)
        exact HFIN.out _ (st ++ strOfNums ((bs.drop i).take k)) HMR.out (by rw [← HE.out]; simp [ByteArray.data_append, strOfNums_l, bytL_take, bytL_drop])
      · have n1 : ¬ (v : Int) = 92 := by omega
        have n3 : (32 : Int) ≤ (v : Int) := by omega
        have n4 : ¬ (v : Int) ≤ 126 := by omega
        have n7 : ¬ (160 : Int) ≤ (v : Int) := by omega
        have n5 : 32 ≤ v := by omega
        have n6 : ¬ v ≤ 126 := by omega
        have n8 : ¬ 160 ≤ v := by omega
        have HE := Lib.hid ((HPC.out.trans ((if_neg cA).trans ((if_neg c2).trans (if_neg (fun h => h.elim (fun h => n6 h.2) n8))))).symm)
        have mx : max (k : Int) 1 = (k : Int) := by omega
        clear hcv
        go_upto_region 6 with (go_at_call 30; refine (HLT.out _ _ _ _ rfl rfl rfl).mono ?_; rintro e w2 ⟨rfl, rfl⟩)
        go_wp2_with fail
        go_loopw [3, 7] (fun vs vj wx => ∃ (j : Nat) (st2 : ByteArray), vs = .string st2 ∧ vj = .int .i64 j ∧ i ≤ j ∧ j ≤ i + k ∧ st2.data.toList = st.data.toList ++ hexs (((bytL bs).drop i).take (j - i)) ∧ Mod No w wx) (fun _ vj _ => i + k - (intOf vj).toNat)
        case atStart => exact ⟨i, st, rfl, rfl, by omega, by omega, by rw [Nat.sub_self]; simp [hexs], HMR.out⟩
        case round =>
          obtain ⟨j, st2, rfl, rfl, hj1, hj2, hst2, hmj⟩ := hrel
          by_cases hjk : j < i + k
          · have hjk2 : (j : Int) < (i : Int) + (k : Int) := by omega
            have hjl : j < bs.length := by omega
            have hjl2 : (j : Int) < (bs.length : Int) := by omega
            have hj0 : (0 : Int) ≤ (j : Int) := by omega
            obtain ⟨cj, hcj1, hcj2, hcj3⟩ := HCL.out j hjl _ hmj
            have HH := Lib.hid (refhex_any cj wr hcj2)
            have hs2 : st2.size = st.size + 4 * (j - i) := by
              rw [Lib.size_eq, hst2, List.length_append, hexs_len, List.length_take, List.length_drop, bytL_len, Lib.size_eq]; omega
            have n9 : ¬ (9223372036854775807 < st2.size + 4) := by omega
            have m9 : IntKind.i64.wrap ((j : Int) + 1) = (j : Int) + 1 := IntWalk.i64_in _ (by omega)
            have HST2 := Lib.hid hst2
            have HMJ := Lib.hid hmj
            clear hst2 hmj hs2
            go_wp2_with (go_at_call 31; refine HH.out.mono ?_; rintro e w5 ⟨rfl, hm5⟩)
            refine ⟨⟨j + 1, st2 ++ ⟨#[92, 120, hexD (cj / 16), hexD (cj % 16)]⟩, by first | trivial | rfl, by first | trivial | go_num, by omega, by omega, ?_, HMJ.out.trans hm5⟩, by simp [intOf]; omega⟩
            have e1 : j + 1 - i = (j - i) + 1 := by omega
            have e2 : ((bytL bs).drop i)[j - i]? = some (UInt8.ofNat cj) := by rw [List.getElem?_drop, show i + (j - i) = j by omega]; exact hcj3
            have e3 : (UInt8.ofNat cj).toNat = cj := by rw [UInt8.toNat_ofNat']; omega
            have e4 : (st2 ++ (⟨#[92, 120, hexD (cj / 16), hexD (cj % 16)]⟩ : ByteArray)).data.toList = st2.data.toList ++ [92, 120, hexD (cj / 16), hexD (cj % 16)] := by simp [ByteArray.data_append]
            rw [e1, List.take_add_one, e2, e4, HST2.out]
            show _ = st.data.toList ++ hexs (_ ++ [UInt8.ofNat cj])
            rw [hexs_snoc, e3, List.append_assoc]
          · obtain rfl : j = i + k := by omega
            have hjk2 : ¬ ((i + k : Nat) : Int) < (i : Int) + (k : Int) := by omega
            have hjk3 : ¬ (i : Int) + (k : Int) < (i : Int) + (k : Int) := by omega
            have HST2 := Lib.hid hst2
            have HMJ := Lib.hid hmj
            clear hst2 hmj
            go_wp2_with fail
            exact HFIN.out _ st2 HMJ.out (by rw [HST2.out, Nat.add_sub_cancel_left, HE.out])
    · obtain rfl : i = bs.length := by omega
      have hni : ¬ (bs.length : Int) < (bs.length : Int) := by omega
      have HACC := Lib.hid hacc
      have HMR := Lib.hid hmr
      clear hacc hmr
      go_wp2_with fail
      go_ret
      have e := HACC.out
      rw [List.drop_eq_nil_of_le (by rw [bytL_len]; exact Nat.le_refl _), showR_nil, List.append_nil] at e
      refine ⟨?_, HMR.out⟩
      rw [← e]
      show Ending.returned (Value.string st) = Ending.returned (Value.string ⟨st.data.toList.toArray⟩)
      rw [Array.toArray_toList]

end Go.Proofs.YtmdeljacbekbpaaDoor
