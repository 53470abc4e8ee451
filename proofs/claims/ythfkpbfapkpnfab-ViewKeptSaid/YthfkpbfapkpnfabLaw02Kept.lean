/- ViewKept: a rewrite changes no table, no free frame and none of the hypervisor's. -/
import Derived.Test.YthfkpbfapkpnfabLaw02Two
import Derived.Test.YthfkpbfapkpnfabLaw01Told
import Derived.BigQuiet
namespace Go.Proofs.Ythfkpbfapkpnfab
open Go.RowKit
set_option maxRecDepth 100000

/-- Frame by frame: a data page's bytes may differ, nothing else. -/
def LikeF (g f : Fr) : Prop := f.owner = g.owner ∧ f.type = g.type ∧ (¬ (0 ≤ g.owner ∧ g.type ≠ 2 ∧ g.type ≠ 3) → f = g)
def LikeS (S0 S : List Fr) : Prop := S.length = S0.length ∧ ∀ (i : Nat) f, S[i]? = some f → ∃ g, S0[i]? = some g ∧ LikeF g f
theorem LikeS.refl (S : List Fr) : LikeS S S := ⟨rfl, fun _ f h => ⟨f, h, rfl, rfl, fun _ => rfl⟩⟩
theorem LikeS.trans {S T U : List Fr} (h : LikeS S T) (h2 : LikeS T U) : LikeS S U := by
  refine ⟨h2.1.trans h.1, fun i f hf => ?_⟩
  obtain ⟨g, hg, e1, e2, e3⟩ := h2.2 i f hf
  obtain ⟨k, hk, a1, a2, a3⟩ := h.2 i g hg
  refine ⟨k, hk, e1.trans a1, e2.trans a2, fun q => ?_⟩
  have := a3 q
  subst this
  exact e3 q
theorem like_poke (S : List Fr) (mfn off : Int) (bs : List Int) : LikeS S (pokeS S mfn off bs) := by
  refine ⟨pokeS_len _ _ _ _, fun i f hf => ?_⟩
  unfold pokeS at hf
  split at hf
  · split at hf
    · rename_i g hg
      split at hf
      · rename_i hc
        rw [List.getElem?_set] at hf
        by_cases e : mfn.toNat = i
        · subst e
          have hl := (List.getElem?_eq_some_iff.1 hg).1
          rw [if_pos rfl, if_pos hl] at hf
          cases hf
          exact ⟨g, hg, rfl, rfl, fun q => absurd hc.1 q⟩
        · rw [if_neg e] at hf
          exact ⟨f, hf, rfl, rfl, fun _ => rfl⟩
      · exact ⟨f, hf, rfl, rfl, fun _ => rfl⟩
    · exact ⟨f, hf, rfl, rfl, fun _ => rfl⟩
  · exact ⟨f, hf, rfl, rfl, fun _ => rfl⟩
theorem like_pokes : ∀ (l : List Pk) (S : List Fr), LikeS S (pokes l S)
  | [], S => LikeS.refl S
  | p :: l, S => (like_poke S p.mfn p.off p.bs).trans (like_pokes l (p.poke S))

set_option maxHeartbeats 16000000 in
theorem kept_any (q0 : Option Addr) (l : List StD) (c0 : Nat) (q1 : Option Addr) (ps : List Pk) (c1 : Nat) (a : Int) (ha : 0 ≤ a ∧ a ≤ 255) (w : World) (hs : StDS w q0 l) (hl : l.length * 40 ≤ 140737488355328) (hp : PkS w q1 ps) (hpl : ps.length * 48 ≤ 140737488355328) :
    Calls Try.prog 6 #[.slice q0 l.length c0, .slice q1 ps.length c1, .int .u8 a] w fun e w' => e = .returned (.bool true) ∧ Mod No w w' := by
  obtain ⟨S, hSl, hSI, hbeg⟩ := begin2_in l hs.ranges (by omega)
  have hpl2 : ps.length ≤ 140737488355328 := by omega
  have hSn : S.length ≤ 9 := by rw [hSl]; unfold begN; omega
  have HS := Lib.hid hs
  have HP := Lib.hid hp
  have HB := Lib.hid hbeg
  clear hs hp hbeg hSI hSl hl
  go_enter Try.func6, Try.ntmps6
  go_wp2_with fail
  refine (HB.out w q0 c0 HS.out).mono ?_
  rintro e w1 ⟨B, F, K, rfl, h1⟩
  have H1 := Lib.hid h1
  clear h1
  by_cases hlong : 64 < ps.length
  · have d1 : decide ((64 : Int) < ps.length) = true := decide_eq_true (by omega)
    go_wp2_with fail
    refine (vnew_long q1 ps.length c1 _ H1.out.two.p hlong hpl2).mono ?_
    rintro e w3 ⟨rfl, rfl⟩
    go_wp2
    go_ret
    exact ⟨by simp, H1.out.mod⟩
  · go_wp2_with fail
    refine (vnew_in q1 ps c1 _ H1.out.two.p (HP.out.kept H1.out.mod) (by omega)).mono ?_
    rintro e w3 ⟨k, rfl, hm3, hv3⟩
    have HV := Lib.hid (show VwS w B F w1.heap.size w3.heap.size k 0 ps S w3 from ⟨H1.out.two.p.kept hm3 (fun q => q) (fun q => q), hv3, H1.out.mod.trans hm3, H1.out.F, H1.out.two.p.ltF⟩)
    have HR := Lib.hid (H1.out.two.r.keptNo hm3)
    have HKl : Hid (∀ i, K.has i → i < w1.heap.size) := fun i hi => H1.out.two.r.lt i hi
    have HNF : Hid (¬ K.has F) := (H1.out.two.r.ne_phys H1.out.two.p).2
    clear hm3 hv3 H1
    generalize w1.heap.size = b1 at HV HKl
    generalize w3.heap.size = t1 at HV
    obtain ⟨M, hM, hM0, hM1⟩ : ∃ M : Nat, a.tmod 16 = M ∧ M ≤ 15 ∧ a % 16 = M := ⟨(a % 16).toNat, by rw [Int.tmod_eq_emod_of_nonneg ha.1]; omega, by omega, by omega⟩
    go_wp2_with fail
    go_loopw [12] (fun v wr => ∃ i : Nat, i ≤ M ∧ v = .int .i64 i ∧ ∃ T, VwS w B F b1 t1 k (i : Int) ps T wr ∧ LikeS S T ∧ RfM wr K S) (fun v _ => M - (intOf v).toNat)
    case atStart => exact ⟨0, Nat.zero_le _, rfl, S, HV.out, LikeS.refl S, HR.out⟩
    case round =>
      obtain ⟨i, hi, rfl, T, hvw, hlk, hrf⟩ := hrel
      have HVW := Lib.hid hvw
      have HLK := Lib.hid hlk
      have HRF := Lib.hid hrf
      clear hvw hlk hrf
      by_cases hlt : i < M
      · have hlt' : (i : Int) < M := by omega
        have hT1 : T.length = S.length := HLK.out.1
        have hT0 := HVW.out.p.len.1
        obtain ⟨f, hf⟩ : ∃ f, (pokes (dueAt ps i) T)[(0 : Int).toNat]? = some f := ⟨_, List.getElem?_eq_getElem (by rw [pokes_len]; have : (0 : Int).toNat = 0 := rfl; omega)⟩
        have HRD := Lib.hid (vread_ok 0 0 1 f wr HVW.out.p HVW.out.v HVW.out.F.2 ⟨by omega, by omega⟩ hpl2 ⟨by omega, by omega, by omega, by omega⟩ hf)
        clear hf
        go_wp2_with fail
        refine HRD.out.mono ?_
        rintro e w5 ⟨g, rfl, _, _, _, ho⟩
        have HV5 := Lib.hid (HVW.out.step ho)
        have HR5 : Hid (RfM w5 K S) := HRF.out.kept ho.mod (fun x hx q => by
          rcases q with rfl | rfl
          · exact HNF.out hx
          · have := HKl.out _ hx; have := HVW.out.v.d.rng.1; omega)
        clear ho HRD
        go_wp2
        go_roundw
        case rel => exact ⟨i + 1, by omega, by go_num, _, by rw [show ((i + 1 : Nat) : Int) = (i : Int) + 1 by omega]; exact HV5.out, HLK.out.trans (like_pokes _ _), HR5.out⟩
        case measure => simp [intOf]; omega
      · obtain rfl : i = M := by omega
        go_wp2_with fail
        go_loopw [13] (fun v wx => ∃ j : Nat, j ≤ S.length ∧ v = .int .i64 j ∧ Mod No wr wx) (fun v _ => S.length - (intOf v).toNat)
        case atStart => exact ⟨0, Nat.zero_le _, rfl, Mod.refl _ _⟩
        case round =>
          obtain ⟨j, hj, rfl, hm⟩ := hrel
          have hPr := (HVW.out.no hm).p
          have hRr := HRF.out.keptNo hm
          obtain ⟨c2, hc2, hF2⟩ := hRr.cF
          by_cases hlt2 : j < S.length
          · have hlt3 : (j : Int) < S.length := by omega
            have b3 : (0 : Int) ≤ j := by omega
            obtain ⟨f, hf⟩ : ∃ f, T[j]? = some f := ⟨_, List.getElem?_eq_getElem (by rw [HLK.out.1]; exact hlt2)⟩
            obtain ⟨g, hg, eo, et, ee⟩ := HLK.out.2 j f hf
            have HFM := Lib.hid (frame_in j f _ hPr (by omega) (by rw [Int.toNat_natCast]; exact hf))
            have HEE := Lib.hid ee
            have HM := Lib.hid hm
            have HF := Lib.hid hf
            have HG := Lib.hid hg
            have HEO := Lib.hid eo
            have HET := Lib.hid et
            clear hPr ee hm hf hg hRr eo et
            go_wp2_with fail
            refine HFM.out.mono ?_
            rintro e w5 ⟨rfl, hm5⟩
            have HM5 := Lib.hid ((HM.out.trans hm5).alloc (.cells #[.int .i64 f.owner, .int .i64 f.type, .int .i64 f.count, .int .i64 f.total] 30))
            clear hm5 HFM HM
            by_cases hd : 0 ≤ g.owner ∧ g.type ≠ 2 ∧ g.type ≠ 3
            · have d1 : decide (0 ≤ f.owner) = true := by rw [HEO.out]; exact decide_eq_true hd.1
              have d2 : (f.type != 2) = true := by rw [HET.out]; exact bne_iff_ne.2 hd.2.1
              have d3 : (f.type != 3) = true := by rw [HET.out]; exact bne_iff_ne.2 hd.2.2
              clear hd
              go_wp2
              go_roundw
              case rel => exact ⟨j + 1, by omega, by go_num, HM5.out⟩
              case measure => simp [intOf]; omega
            · have hfg := HEE.out hd
              subst hfg
              have HRD : Hid (∀ w', VwS w B F b1 t1 k (i : Int) ps T w' → Calls Try.prog 17 #[.pointer (some ⟨B, 0, none⟩), .int .i64 j, .int .i64 0, .int .i64 256] w' fun e w2 => e = .returned (.tuple #[.slice (some ⟨w'.heap.size, 0, none⟩) 256 256, .int .i64 0]) ∧ Mod No w' w2 ∧
                  w2.heap[w'.heap.size]? = some (.cells (f.bytes.map (Value.int .u8)).toArray 5 (0, 0))) := fun w' hv => by
                have hl := (HVW.out.p.ok f (List.mem_of_getElem? HF.out)).1
                have hTl := HLK.out.1
                refine (read_in j 0 256 f w' hv.p ⟨by omega, by omega, by omega, by omega⟩ (by rw [Int.toNat_natCast]; exact HF.out)).mono fun e w2 q => ⟨q.1, q.2.1, ?_⟩
                have h3 := q.2.2.2
                rw [show (f.bytes.drop (0 : Int).toNat).take (256 : Int).toNat = f.bytes from List.take_of_length_le (by rw [show (f.bytes.drop (0 : Int).toNat) = f.bytes from rfl, hl]; exact Nat.le_refl _)] at h3
                exact h3
              have HLEN : Hid (f.bytes.length = 256) := (HVW.out.p.ok f (List.mem_of_getElem? HF.out)).1
              have hcase : (¬ 0 ≤ f.owner) ∨ (0 ≤ f.owner ∧ f.type = 2) ∨ (0 ≤ f.owner ∧ ¬ f.type = 2 ∧ f.type = 3) := by omega
              clear hd
              rcases hcase with d6 | ⟨d6, d4⟩ | ⟨d6, d4, d5⟩
              · have d1 : decide (0 ≤ f.owner) = false := decide_eq_false d6
                first | clear d4 d5 d6 | clear d4 d6 | clear d6
                go_wp2_with fail
                refine (HRD.out _ (HVW.out.no HM5.out)).mono ?_
                rintro e w6 ⟨rfl, hm6, hg6⟩
                have hR6 := HRF.out.keptNo (HM5.out.trans hm6)
                obtain ⟨cB6, hcB6, hB6⟩ := hR6.cB
                obtain ⟨rb, rc, hrc, hbl, hcR, hcx, _⟩ := hR6.cR HG.out
                have hv2 := conv_ref (c := rc) hR6 HG.out hcx
                have hv1 : ∀ q, (convert 33 9 (.slice (some ⟨(w5.alloc (.cells #[.int .i64 f.owner, .int .i64 f.type, .int .i64 f.count, .int .i64 f.total] 30)).heap.size, 0, none⟩) 256 256)).run Try.prog (w6.drewN q) = .ok (.string (strOfNums f.bytes)) (w6.drewN q) :=
                  fun q => conv_row (w := w6.drewN q) hg6 0 256 256 f.bytes (by rw [List.drop_zero, List.take_of_length_le (by rw [HLEN.out]; exact Nat.le_refl _)]) (by rw [HLEN.out]; omega)
                rw [World.size_alloc] at hv1
                have HM6 := Lib.hid (HM5.out.trans hm6)
                clear hm6 hR6 hg6 hcx hbl
                go_wp2_with fail
                go_quiet (fail)
                go_wp2
                go_roundw
                case rel => exact ⟨j + 1, by omega, by go_num, HM6.out.drewN _⟩
                case measure => simp [intOf]; omega
              · have d1 : decide (0 ≤ f.owner) = true := decide_eq_true d6
                have d2 : (f.type != 2) = false := by rw [d4]; rfl
                first | clear d4 d5 d6 | clear d4 d6 | clear d6
                go_wp2_with fail
                refine (HRD.out _ (HVW.out.no HM5.out)).mono ?_
                rintro e w6 ⟨rfl, hm6, hg6⟩
                have hR6 := HRF.out.keptNo (HM5.out.trans hm6)
                obtain ⟨cB6, hcB6, hB6⟩ := hR6.cB
                obtain ⟨rb, rc, hrc, hbl, hcR, hcx, _⟩ := hR6.cR HG.out
                have hv2 := conv_ref (c := rc) hR6 HG.out hcx
                have hv1 : ∀ q, (convert 33 9 (.slice (some ⟨(w5.alloc (.cells #[.int .i64 f.owner, .int .i64 f.type, .int .i64 f.count, .int .i64 f.total] 30)).heap.size, 0, none⟩) 256 256)).run Try.prog (w6.drewN q) = .ok (.string (strOfNums f.bytes)) (w6.drewN q) :=
                  fun q => conv_row (w := w6.drewN q) hg6 0 256 256 f.bytes (by rw [List.drop_zero, List.take_of_length_le (by rw [HLEN.out]; exact Nat.le_refl _)]) (by rw [HLEN.out]; omega)
                rw [World.size_alloc] at hv1
                have HM6 := Lib.hid (HM5.out.trans hm6)
                clear hm6 hR6 hg6 hcx hbl
                go_wp2_with fail
                go_quiet (fail)
                go_wp2
                go_roundw
                case rel => exact ⟨j + 1, by omega, by go_num, HM6.out.drewN _⟩
                case measure => simp [intOf]; omega
              · have d1 : decide (0 ≤ f.owner) = true := decide_eq_true d6
                have d2 : (f.type != 2) = true := bne_iff_ne.2 d4
                have d3 : (f.type != 3) = false := by rw [d5]; rfl
                first | clear d4 d5 d6 | clear d4 d6 | clear d6
                go_wp2_with fail
                refine (HRD.out _ (HVW.out.no HM5.out)).mono ?_
                rintro e w6 ⟨rfl, hm6, hg6⟩
                have hR6 := HRF.out.keptNo (HM5.out.trans hm6)
                obtain ⟨cB6, hcB6, hB6⟩ := hR6.cB
                obtain ⟨rb, rc, hrc, hbl, hcR, hcx, _⟩ := hR6.cR HG.out
                have hv2 := conv_ref (c := rc) hR6 HG.out hcx
                have hv1 : ∀ q, (convert 33 9 (.slice (some ⟨(w5.alloc (.cells #[.int .i64 f.owner, .int .i64 f.type, .int .i64 f.count, .int .i64 f.total] 30)).heap.size, 0, none⟩) 256 256)).run Try.prog (w6.drewN q) = .ok (.string (strOfNums f.bytes)) (w6.drewN q) :=
                  fun q => conv_row (w := w6.drewN q) hg6 0 256 256 f.bytes (by rw [List.drop_zero, List.take_of_length_le (by rw [HLEN.out]; exact Nat.le_refl _)]) (by rw [HLEN.out]; omega)
                rw [World.size_alloc] at hv1
                have HM6 := Lib.hid (HM5.out.trans hm6)
                clear hm6 hR6 hg6 hcx hbl
                go_wp2_with fail
                go_quiet (fail)
                go_wp2
                go_roundw
                case rel => exact ⟨j + 1, by omega, by go_num, HM6.out.drewN _⟩
                case measure => simp [intOf]; omega
          · obtain rfl : j = S.length := by omega
            go_wp2_with (go_at_call 36; refine (vreads_made (HVW.out.no hm).v).mono ?_; rintro e w' ⟨rfl, rfl⟩)
            go_ret
            exact ⟨by simp, HVW.out.mod.trans hm⟩

end Go.Proofs.Ythfkpbfapkpnfab
