/- tenementlaw16.begin: a machine of two frames of domain 1, and the document's. -/
import Derived.Test.YtmdeljacbekbpaaDoorBothG
namespace Go.Proofs.YtmdeljacbekbpaaDoor
open Go.RowKit
set_option maxRecDepth 100000

/-- All frames are domain 1's, one after another. -/
def own1Fr : Fr := { freeFr with owner := 1 }
def up1 (N i : Nat) : List Fr := List.replicate i own1Fr ++ List.replicate (N - i) freeFr

theorem up1_len {N i : Nat} (h : i ≤ N) : (up1 N i).length = N := by simp [up1]; omega
theorem up1_at {N i : Nat} (h : i < N) : (up1 N i)[i]? = some freeFr := by
  unfold up1
  rw [List.getElem?_append_right (by simp), List.length_replicate, Nat.sub_self, List.getElem?_replicate, if_pos (show 0 < N - i by omega)]
theorem up1_set {N i : Nat} (h : i < N) : (up1 N i).set i { freeFr with owner := 1 } = up1 N (i + 1) := by
  unfold up1
  rw [List.set_append_right _ _ (by simp), List.length_replicate, Nat.sub_self, show N - i = (N - (i + 1)) + 1 by omega, List.replicate_succ, List.set_cons_zero, List.replicate_succ' (n := i), List.append_assoc]
  rfl
theorem up1_low {N i k : Nat} (h : k < i) : (up1 N i)[k]? = some own1Fr := by
  unfold up1
  rw [List.getElem?_append_left (by simpa using h)]
  simp [h]

theorem idxs_up1 {N i : Nat} (h : i < N) : ∃ r, idxs (up1 N i) (-1) (up1 N i).length = (i : Int) :: r := by
  have h1 : ∀ k, k ≤ i → idxs (up1 N i) (-1) k = [] := by
    intro k hk
    induction k with
    | zero => rfl
    | succ k ih =>
      rw [idxs_miss (by simp [ownsAt, up1_low (N := N) (show k < i by omega), own1Fr]), ih (by omega)]
  have h2 : idxs (up1 N i) (-1) (i + 1) = [(i : Int)] := by
    rw [idxs_hit (by simp [ownsAt, up1_at h, freeFr]), h1 i (Nat.le_refl _)]; rfl
  obtain ⟨r, hr⟩ := idxs_pre (up1 N i) (-1) (show i + 1 ≤ (up1 N i).length by rw [up1_len (by omega)]; omega)
  rw [h2] at hr
  exact ⟨r, hr.symm⟩

theorem inv_own1 (m : Nat) : own1Fr.inv m := ⟨fun q => absurd q (by simp [own1Fr]), by simp [own1Fr], by simp [own1Fr, freeFr], by simp [own1Fr, freeFr], by simp [own1Fr, freeFr]⟩
theorem invS_up1 (m N i : Nat) : invS m (up1 N i) := by
  intro f hf
  rcases List.mem_append.1 hf with q | q
  · rw [(List.mem_replicate.1 q).2]; exact inv_own1 m
  · rw [(List.mem_replicate.1 q).2]; exact inv_free m

/-- Alloc(1), in both. -/
theorem up1_alloc {N i : Nat} (h : i < N) :
    (∀ w B F, PhM w B F (up1 N i) → Calls Tryd.prog 33 #[.pointer (some ⟨B, 0, none⟩), .int .i64 1] w (POut B F (.tuple #[.int .i64 i, .int .i64 0]) (up1 N (i + 1)) w)) ∧
    (∀ w K, RfM w K (up1 N i) → Calls Tryd.prog 34 #[.pointer (some ⟨K.R, 0, none⟩), .int .i64 1] w (ROut K (.tuple #[.int .i64 i, .int .i64 0]) (up1 N (i + 1)) w)) := by
  obtain ⟨r, hr⟩ := idxs_up1 h
  refine ⟨fun w B F hP => ?_, fun w K hR => ?_⟩
  · have := alloc_some 1 w hP (.inl ⟨by omega, by omega⟩) hr (up1_at h)
    rw [up1_set h] at this
    exact this
  · have := ralloc_some 1 w hR (.inl ⟨by omega, by omega⟩) hr (up1_at h)
    rw [up1_set h] at this
    exact this.mono fun e w' q => ROut.inn q

set_option maxHeartbeats 8000000 in
theorem begin16_any (w : World) :
    Calls Tryd.prog 12 #[] w fun e w' => ∃ B F K, e = .returned (.tuple #[.pointer (some ⟨B, 0, none⟩), .pointer (some ⟨K.R, 0, none⟩), .bool true]) ∧ RoundS w B F 2 0 K [own1Fr, own1Fr] w' ∧ w.heap.size ≤ B := by
  go_enter Tryd.func12, Tryd.ntmps12
  go_wp2_with fail
  refine (new_in 2 _ (by omega) (by omega)).mono ?_
  rintro e w1 ⟨B, F, rfl, hB, hF, hm1, hP1⟩
  go_wp2_with fail
  refine (rnew_in 2 _ (by omega) (by omega)).mono ?_
  rintro e w2 ⟨K0, rfl, hK, hm2, hR2⟩
  have hm12 := hm1.trans hm2
  have hs1 := hm1.size
  have h0 : RoundS w B F 2 0 K0 (up1 2 0) w2 := by
    have e : up1 2 0 = List.replicate 2 freeFr := by simp [up1]
    rw [e]
    exact ⟨⟨hP1.kept hm2 (fun q => q) (fun q => q), hR2, invS_new _ _⟩, by simp, hm12, hF, fun k hk => by have := hK k hk; omega⟩
  obtain ⟨R0, hR0⟩ : ∃ R0, R0 = K0.R := ⟨_, rfl⟩
  rw [← hR0]
  have HR0 := Lib.hid hR0
  have H0 := Lib.hid h0
  have HB := Lib.hid hB
  clear hR0 h0 hP1 hR2 hm1 hm2 hm12 hK hB hF
  go_wp2_with fail
  go_loopw [7] (fun v wr => ∃ i : Nat, i ≤ 2 ∧ v = .int .i64 i ∧ ∃ K, RoundS w B F 2 0 K (up1 2 i) wr ∧ K.R = R0) (fun v _ => 2 - (intOf v).toNat)
  case atStart => exact ⟨0, Nat.zero_le _, rfl, K0, H0.out, HR0.out.symm⟩
  case round =>
    obtain ⟨i, hi, rfl, K, hrd, hKR⟩ := hrel
    by_cases hlt : i < 2
    · have hlt' : (i : Int) < 2 := by omega
      obtain ⟨hA, hRA⟩ := up1_alloc hlt
      have HA := Lib.hid (hA wr B F hrd.two.p)
      have hq : ∀ w3, Mod (One F) wr w3 → Calls Tryd.prog 34 #[.pointer (some ⟨K.R, 0, none⟩), .int .i64 1] w3 (ROut K (.tuple #[.int .i64 i, .int .i64 0]) (up1 2 (i + 1)) w3) :=
        fun w3 hm => hRA w3 K (hrd.two.r.kept hm (fun k hk (e : k = F) => (hrd.two.r.ne_phys hrd.two.p).2 (e ▸ hk)))
      rw [hKR] at hq
      have HQ := Lib.hid hq
      have HRD := Lib.hid hrd
      have HKR := Lib.hid hKR
      clear hA hRA hq hrd hKR
      go_wp2_with fail
      refine HA.out.mono ?_
      rintro e w3 hpo
      have HPO := Lib.hid hpo
      obtain ⟨rfl, hm3, _⟩ := hpo
      go_wp2_with fail
      refine (HQ.out _ hm3).mono ?_
      rintro e w4 hro
      obtain ⟨K', hrd', hK'⟩ := HRD.out.pair (Mod.refl No wr) HPO.out hro (invS_up1 0 2 (i + 1)) (by rw [up1_len (by omega), up1_len (by omega)])
      obtain ⟨_, rfl, _⟩ := hro
      have HRD' := Lib.hid hrd'
      have HK' := Lib.hid (hK'.trans HKR.out)
      clear hm3 HPO HQ HA hrd' hK'
      go_wp2
      go_roundw
      case rel => exact ⟨i + 1, by omega, by go_num, K', HRD'.out, HK'.out⟩
      case measure => simp [intOf]; omega
    · obtain rfl : i = 2 := by omega
      have HRD := Lib.hid hrd
      have HKR := Lib.hid hKR
      clear hrd hKR
      go_wp2
      go_ret3
      exact ⟨B, F, K, by rw [HKR.out]; rfl, HRD.out, HB.out⟩

end Go.Proofs.YtmdeljacbekbpaaDoor
