/- cons.Console.Drain. -/
import Derived.Test.YtmdeljacbekbpaaDoorConsDW
import Derived.RegionTactic
import Derived.IntWalk
import Derived.Deep.DeepCutAuto
import Derived.Deep.CutRange
import Derived.ChangeAlike
namespace Go.Proofs.YtmdeljacbekbpaaDoor
open Go.RowKit
set_option maxRecDepth 100000

set_option maxHeartbeats 4000000 in
/-- Drain, where the page is none. -/
theorem drain_bad {B F b base top : Nat} {vk : ViK} {N : Int} {l : List Pk} {S : List Fr} {c : Co} {lv pv : Value} (w : World) (h : CW B F b base top vk N l S c lv pv w) (hN : 0 ≤ N ∧ N < 4611686018427387904) (hl : l.length ≤ 140737488355328) (hp : ¬ InP S c.mfn 0 2) :
    Calls Tryd.prog 18 #[.pointer (some ⟨b, 0, none⟩), .pointer (some ⟨vk.V, 0, none⟩)] w fun e w' => e = .returned (.tuple #[.int .i64 0, .bool false, .int .i64 1]) ∧ CW B F b base top vk (N + 1) l (pokes (dueAt l N) S) c lv pv w' ∧ Mod (P3 F vk b) w w' := by
  have c0 : w.cell? ⟨b, 0, none⟩ = some (.bool true) := h.co.at_ 0
  have HN := Lib.hid (cnone_yes b w c0)
  have HU := Lib.hid (unmade_made w h.v)
  have HC := Lib.hid h
  have HWD : Hid (∀ w', Mod No w w' → Calls Tryd.prog 40 #[.pointer (some ⟨vk.V, 0, none⟩), .int .i64 c.mfn, .int .i64 0] w' _) := fun w' hm => vword_bad c.mfn 0 w' (h.no hm).p (h.no hm).v h.sep.1 hN hl hp
  have hS1 : (fun w' : World => w'.cell? ⟨b, 1, none⟩ = some (.int .i64 c.mfn) ∧ w'.cell? ⟨b, 4, none⟩ = some (.int .i64 0)) w := ⟨h.co.at_ 1, h.co.at_ 4⟩
  clear h hp c0
  go_enter Tryd.func18, Tryd.ntmps18
  go_upto_region 4 with (first
    | (go_at_call 38; refine HN.out.mono ?_; rintro e w' ⟨rfl, rfl⟩)
    | (go_at_call 39; refine HU.out.mono ?_; rintro e w' ⟨rfl, rfl⟩))
  go_region_held3 (fun w' : World => w'.cell? ⟨b, 1, none⟩ = some (.int .i64 c.mfn) ∧ w'.cell? ⟨b, 4, none⟩ = some (.int .i64 0)) (first | exact hS1 | assumption) ((go_at_call 40; refine (HWD.out _ (Mod.refl No w).drew).mono ?_; rintro e w2 ⟨rfl, ho⟩; obtain ⟨hc2, hm2⟩ := (HC.out.no (Mod.refl No w).drew).vout ho; have hS2 : (fun w' : World => w'.cell? ⟨b, 1, none⟩ = some (.int .i64 c.mfn) ∧ w'.cell? ⟨b, 4, none⟩ = some (.int .i64 0)) w2 := ⟨hc2.co.at_ 1, hc2.co.at_ 4⟩; have HC2 := Lib.hid hc2; have HM2 := Lib.hid ((Mod.of_no (Mod.refl No w).drew).trans hm2); clear hc2 hm2 ho))
  go_wp2
  go_ret3
  exact ⟨rfl, HC2.out, HM2.out⟩

/-- What Drain leaves. -/
def DrainPost (B F b base top : Nat) (vk : ViK) (N : Int) (l : List Pk) (S : List Fr) (c : Co) (lv pv : Value) (b0 : Nat) (s : List (List Int) × List Int) (n : Nat) (ahead : Int) (w : World) (e : Ending) (w' : World) : Prop :=
  ∃ lv' pv', e = .returned (.tuple #[.int .i64 n, .bool (decide ((n : Int) < ahead)), .int .i64 0]) ∧
    DW B F b base top vk N l S c lv' pv' b0 s w' ∧ Mod (P4 F vk b lv pv) w w' ∧ ∀ j, Own2 lv' pv' j → Own2 lv pv j ∨ w.heap.size ≤ j

theorem own_row {w : World} {base g : Nat} {bs : List Int} (h : w.heap[g]? = some (.cells (bs.map (Value.int .u8)).toArray 5 (0, 0))) (hb : base ≤ g) (hl : bs.length ≤ maxLen) : w.ownsRow base 5 1 (.slice (some ⟨g, 0, none⟩) bs.length bs.length) bs.length (bs.map (Value.int .u8)) :=
  ⟨by simp, .inr ⟨g, bs.length, _, rfl, hb, h, Nat.le_refl _, hl, by simp, by rw [Nat.mul_one]; exact List.take_of_length_le (by simp)⟩⟩

set_option maxHeartbeats 16000000 in
/-- Drain. -/
theorem drain_ok {B F b base top : Nat} {vk : ViK} {N : Int} {l : List Pk} {S : List Fr} {c : Co} {lv pv : Value} {b0 : Nat} {s : List (List Int) × List Int} (f : Fr) (w : World) (h : DW B F b base top vk N l S c lv pv b0 s w) (hN : 0 ≤ N ∧ N < 4611686018427387900) (hl : l.length ≤ 140737488355328) (hp : InP S c.mfn 0 2) (hf : (pokes (dueAt l N) S)[c.mfn.toNat]? = some f)
    (ahead : Int) (ha : ahead = (word2 ((f.bytes.drop 0).take 2) - c.om) % 65536) (n : Nat) (hn : (n : Int) = min ahead 128) (hls : (s.1.length + 129) * 16 ≤ 140737488355328) (R : List Fr × Int × List Int) (hR : R = outR l N (pokes (dueAt l N) S) c.mfn c.om n) :
    Calls Tryd.prog 18 #[.pointer (some ⟨b, 0, none⟩), .pointer (some ⟨vk.V, 0, none⟩)] w
      (DrainPost B F b base top vk R.2.1 l (wrR R.1 c.mfn 2 (twoB ((c.om + n) % 65536))) { c with om := (c.om + n) % 65536 } lv pv b0 (comesR s R.2.2) n ahead w) := by
  have c0 : w.cell? ⟨b, 0, none⟩ = some (.bool true) := h.cw.co.at_ 0
  have HN := Lib.hid (cnone_yes b w c0)
  have HU := Lib.hid (unmade_made w h.cw.v)
  have HC := Lib.hid h
  have HWD : Hid (∀ w', Mod No w w' → Calls Tryd.prog 40 #[.pointer (some ⟨vk.V, 0, none⟩), .int .i64 c.mfn, .int .i64 0] w' _) := fun w' hm => vword_ok c.mfn 0 f w' (h.no hm).cw.p (h.no hm).cw.v h.cw.sep.1 ⟨hN.1, by omega⟩ hl hp hf
  obtain ⟨ix, hix⟩ : ∃ ix, ix = word2 ((f.bytes.drop 0).take 2) := ⟨_, rfl⟩
  rw [show ((0 : Int).toNat) = 0 from rfl, ← hix] at HWD
  rw [← hix] at ha
  have hS1 : (fun w' : World => w'.cell? ⟨b, 1, none⟩ = some (.int .i64 c.mfn) ∧ w'.cell? ⟨b, 4, none⟩ = some (.int .i64 0)) w := ⟨h.cw.co.at_ 1, h.cw.co.at_ 4⟩
  have hlen1 : (pokes (dueAt l N) S).length = S.length := pokes_len _ _
  generalize pokes (dueAt l N) S = S1 at HWD hR hlen1 ⊢
  have hom := h.cw.ok.o
  have hdw : IntKind.u16.wrap (ix - c.om) = ahead := by rw [ha]; rfl
  have hdr : 0 ≤ ahead ∧ ahead ≤ 65535 := by omega
  have HNL := Lib.hid hN
  have HLL := Lib.hid hl
  have HP : Hid (InP S1 c.mfn 0 2) := inP_len hlen1 hp
  have HSEP := Lib.hid h.cw.sep
  clear h hp c0 hf hix ha hN hl hlen1
  go_enter Tryd.func18, Tryd.ntmps18
  go_upto_region 4 with (first
    | (go_at_call 38; refine HN.out.mono ?_; rintro e w' ⟨rfl, rfl⟩)
    | (go_at_call 39; refine HU.out.mono ?_; rintro e w' ⟨rfl, rfl⟩))
  go_region_held3 (fun w' : World => w'.cell? ⟨b, 1, none⟩ = some (.int .i64 c.mfn) ∧ w'.cell? ⟨b, 4, none⟩ = some (.int .i64 0)) (first | exact hS1 | assumption) ((go_at_call 40; refine (HWD.out _ (Mod.refl No w).drew).mono ?_; rintro e w2 ⟨rfl, ho⟩; obtain ⟨hc2, hm2⟩ := (HC.out.no (Mod.refl No w).drew).vout ho; have hS2 : (fun w' : World => w'.cell? ⟨b, 1, none⟩ = some (.int .i64 c.mfn) ∧ w'.cell? ⟨b, 4, none⟩ = some (.int .i64 0)) w2 := ⟨hc2.cw.co.at_ 1, hc2.cw.co.at_ 4⟩; have HC2 := Lib.hid hc2; have HM2 := Lib.hid ((Mod.of_no (Mod.refl No w).drew).trans hm2); clear hc2 hm2 ho))
  have c3 : w2.cell? ⟨b, 3, none⟩ = some (.int .i64 128) := HC2.out.cw.co.at_ 3
  have c2 : w2.cell? ⟨b, 2, none⟩ = some (.int .i64 16) := HC2.out.cw.co.at_ 2
  have c6 : w2.cell? ⟨b, 6, none⟩ = some (.int .u16 c.om) := HC2.out.cw.co.at_ 6
  clear hS1 hS2 HN HU HWD
  go_upto_region 8 with (fail)
  go_cut [11] from 54 to 60 (fun v2 wx => v2 = .int .i64 n ∧ wx = w2)
  case first =>
    go_wp2_with fail
    all_goals go_meet
    all_goals exact ⟨by congr 1; omega, rfl⟩
  case rest =>
  obtain ⟨rfl, hwc⟩ := hcut
  obtain rfl : w2 = wc := hwc.symm
  clear hwc
  obtain ⟨m, hm⟩ : ∃ m, m = c.om % 128 := ⟨_, rfl⟩
  have hmr : 0 ≤ m ∧ m < 128 := by omega
  have HAT : Hid (∀ w', Mod No w2 w' → Calls Tryd.prog 42 #[.pointer (some ⟨b, 2, none⟩)] w' fun e w3 => e = .returned (.int .i64 (16 + m)) ∧ Mod No w' w3) := fun w' hm' => by
    rw [hm]; exact pat_out w' (HC2.out.cw.co.no hm') HC2.out.cw.ok
  have HM := Lib.hid hm
  clear hm
  obtain ⟨fi, hfi⟩ : ∃ fi : Nat, (fi : Int) = min (n : Int) (128 - m) := ⟨(min (n : Int) (128 - m)).toNat, by omega⟩
  have hfi1 : fi ≤ n ∧ (fi : Int) ≤ 128 - m := by omega
  have HFI := Lib.hid hfi
  clear hfi
  have k0 : IntKind.i64.wrap 144 = 144 := IntWalk.i64_in _ (by omega)
  have k1 : IntKind.i64.wrap (144 - (16 + m)) = 128 - m := by rw [show (144 : Int) - (16 + m) = 128 - m by omega]; exact IntWalk.i64_in _ (by omega)
  have k3 : IntKind.i64.wrap (128 - m) = 128 - m := IntWalk.i64_in _ (by omega)
  have k2 : (144 : Int) - (16 + m) = 128 - m := by omega
  have hn128 : n ≤ 128 := by omega
  clear hn hdw
  have hS3 : (fun w' : World => w'.cell? ⟨b, 2, none⟩ = some (.int .i64 16) ∧ w'.cell? ⟨b, 3, none⟩ = some (.int .i64 128)) w2 := ⟨c2, c3⟩
  clear c2 c3 c6
  go_upto_region 9 with (fail)
  go_cut [12] from 61 to 78 (fun v2 wx => v2 = .int .i64 fi ∧ Mod No w2 wx)
  case first =>
    go_region_held3 (fun w' : World => w'.cell? ⟨b, 2, none⟩ = some (.int .i64 16) ∧ w'.cell? ⟨b, 3, none⟩ = some (.int .i64 128)) (first | exact hS3 | assumption) ((go_at_call 42; refine (HAT.out _ (Mod.refl No w2).drew).mono ?_; rintro e w3 ⟨rfl, hm3⟩; have HM3 : Hid (Mod No w2 w3) := (Mod.refl No w2).drew.trans hm3; have hS4 : (fun w' : World => w'.cell? ⟨b, 2, none⟩ = some (.int .i64 16) ∧ w'.cell? ⟨b, 3, none⟩ = some (.int .i64 128)) w3 := ⟨(HC2.out.cw.co.no HM3.out).at_ 2, (HC2.out.cw.co.no HM3.out).at_ 3⟩; clear hm3))
    all_goals go_wp2_with fail
    all_goals go_meet
    all_goals exact ⟨by rw [HFI.out], HM3.out⟩
  case rest =>
  obtain ⟨rfl, hwc⟩ := hcut
  have HM3 := Lib.hid (HM2.out.trans (Mod.of_no hwc))
  have HC3 := Lib.hid (HC2.out.no hwc)
  have HAT3 := Lib.hid (fun w' (hm' : Mod No wc w') => HAT.out w' (hwc.trans hm'))
  have hszc := HM3.out.size
  obtain ⟨S2, hS2e⟩ : ∃ S2, S2 = pokes (dueAt l (N + 1)) S1 := ⟨_, rfl⟩
  have hS2l : S2.length = S1.length := by rw [hS2e]; exact pokes_len _ _
  obtain ⟨f2, hf2⟩ : ∃ f2, S2[c.mfn.toNat]? = some f2 := ⟨_, List.getElem?_eq_getElem (by have := HP.out.1; omega)⟩
  have hip : InP S1 c.mfn (16 + m) fi := ⟨HP.out.1, by omega, by omega, by omega⟩
  have HRD : Hid (∀ w', Mod No wc w' → Calls Tryd.prog 45 #[.pointer (some ⟨vk.V, 0, none⟩), .int .i64 c.mfn, .int .i64 (16 + m), .int .i64 fi] w' fun e w4 => ∃ g, e = .returned (.tuple #[.slice (some ⟨g, 0, none⟩) fi fi, .int .i64 0]) ∧ w'.heap.size ≤ g ∧ g < w4.heap.size ∧ w4.heap[g]? = some (.cells (((f2.bytes.drop (16 + m).toNat).take fi).map (Value.int .u8)).toArray 5 (0, 0)) ∧ VOut base top B F vk (N + 2) l S2 w' w4) := fun w' hm' => by
    have hr := vread_ok c.mfn (16 + m) fi f2 w' (HC3.out.no hm').cw.p (HC3.out.no hm').cw.v HSEP.out.1 ⟨by have := HNL.out; omega, by have := HNL.out; omega⟩ HLL.out hip (by rw [← hS2e]; exact hf2)
    rw [Int.toNat_natCast, ← hS2e, show N + 1 + 1 = N + 2 by omega] at hr
    exact hr
  have hS5 : (fun w' : World => w'.cell? ⟨b, 1, none⟩ = some (.int .i64 c.mfn)) wc := HC3.out.cw.co.at_ 1
  have HF2 := Lib.hid hf2
  have HS2E := Lib.hid hS2e
  have HS2L := Lib.hid hS2l
  clear hwc HAT hip HC2 HM2 hf2 hS2e hS2l hS3 k0 k1 k2
  go_upto_region 10 with (fail)
  go_region_held3 (fun w' : World => w'.cell? ⟨b, 1, none⟩ = some (.int .i64 c.mfn)) (first | exact hS5 | assumption) (first
    | (go_at_call 42; refine (HAT3.out _ (Mod.refl No wc).drew).mono ?_; rintro e w3 ⟨rfl, hm3⟩; have HM4 : Hid (Mod No wc w3) := (Mod.refl No wc).drew.trans hm3; have hS6 : (fun w' : World => w'.cell? ⟨b, 1, none⟩ = some (.int .i64 c.mfn)) w3 := (HC3.out.cw.co.no HM4.out).at_ 1; clear hm3)
    | (go_at_call 45; refine (HRD.out _ HM4.out).mono ?_; rintro e w4 ⟨g, rfl, hg1, hg2, hrow4, ho⟩; obtain ⟨hc4, hm4⟩ := (HC3.out.no HM4.out).vout ho; have hS7 : (fun w' : World => w'.cell? ⟨b, 1, none⟩ = some (.int .i64 c.mfn)) w4 := hc4.cw.co.at_ 1; have HC4 := Lib.hid hc4; have HM5 := Lib.hid (HM3.out.trans ((Mod.of_no HM4.out).trans hm4)); have HROW4 := Lib.hid hrow4; have HG4 : Hid (w.heap.size ≤ g ∧ g < w4.heap.size) := ⟨by have := HM4.out.size; omega, hg2⟩; clear hc4 hm4 ho hrow4 hg1 hg2))
  clear hS5 hS6 hS7 HRD HAT3 HC3 HM3
  have hf2o := HC4.out.cw.p.ok f2 (List.mem_of_getElem? HF2.out)
  obtain ⟨b1, hb1⟩ : ∃ b1, b1 = (f2.bytes.drop (16 + m).toNat).take fi := ⟨_, rfl⟩
  have hb1l : b1.length = fi := by rw [hb1, List.length_take, List.length_drop, hf2o.1]; omega
  have hb1r : ∀ x ∈ b1, 0 ≤ x ∧ x ≤ 255 := fun x hx => hf2o.2 x (by rw [hb1] at hx; exact List.mem_of_mem_drop (List.mem_of_mem_take hx))
  rw [← hb1] at HROW4
  have HB1 := Lib.hid hb1
  have HB1L := Lib.hid hb1l
  have HB1R := Lib.hid hb1r
  have HR := Lib.hid hR
  clear hf2o hb1 hb1l hb1r hR HM4
  go_upto_if 95 with (fail)
  go_cut [13, 15, 16] from 95 to 115 (fun v13 _ _ wx => ∃ q cap, v13 = .slice q n cap ∧ DW B F b base top vk R.2.1 l R.1 c lv pv b0 s wx ∧ Mod (P3 F vk b) w wx ∧ Byt wx q R.2.2 cap ∧ R.2.2.length = n ∧ ∀ bq off, q = some ⟨bq, off, none⟩ → w.heap.size ≤ bq ∧ bq < wx.heap.size)
  case first =>
    by_cases hlt : fi < n
    · have hlt' : (fi : Int) < n := by omega
      have hfm : (fi : Int) = 128 - m := by have := HFI.out; omega
      obtain ⟨S3, hS3e⟩ : ∃ S3, S3 = pokes (dueAt l (N + 2)) S2 := ⟨_, rfl⟩
      have hS3l : S3.length = S2.length := by rw [hS3e]; exact pokes_len _ _
      obtain ⟨f3, hf3⟩ : ∃ f3, S3[c.mfn.toNat]? = some f3 := ⟨_, List.getElem?_eq_getElem (by have := HP.out.1; have := HS2L.out; omega)⟩
      have hip : InP S2 c.mfn 16 ((n - fi : Nat) : Int) := inP_len HS2L.out ⟨HP.out.1, by omega, by omega, by omega⟩
      have HRD : Hid (∀ w', Mod No w4 w' → Calls Tryd.prog 45 #[.pointer (some ⟨vk.V, 0, none⟩), .int .i64 c.mfn, .int .i64 16, .int .i64 ((n - fi : Nat) : Int)] w' fun e w5 => ∃ g2, e = .returned (.tuple #[.slice (some ⟨g2, 0, none⟩) (n - fi) (n - fi), .int .i64 0]) ∧ w'.heap.size ≤ g2 ∧ g2 < w5.heap.size ∧ w5.heap[g2]? = some (.cells (((f3.bytes.drop 16).take (n - fi)).map (Value.int .u8)).toArray 5 (0, 0)) ∧ VOut base top B F vk (N + 3) l S3 w' w5) := fun w' hm' => by
        have hr := vread_ok c.mfn 16 ((n - fi : Nat) : Int) f3 w' (HC4.out.no hm').cw.p (HC4.out.no hm').cw.v HSEP.out.1 ⟨by have := HNL.out; omega, by have := HNL.out; omega⟩ HLL.out hip (by rw [← hS3e]; exact hf3)
        rw [Int.toNat_natCast, ← hS3e, show N + 2 + 1 = N + 3 by omega] at hr
        exact hr
      have hR3 : R = (S3, N + 3, b1 ++ (f3.bytes.drop 16).take (n - fi)) := by
        rw [HR.out]
        unfold outR bytesAt
        rw [← HM.out, ← HS2E.out, ← hS3e, if_neg (by omega), HF2.out, hf3, HB1.out, show 128 - m.toNat = fi by omega]
        rfl
      have HR3 := Lib.hid hR3
      have hS5 : (fun w' : World => w'.cell? ⟨b, 1, none⟩ = some (.int .i64 c.mfn) ∧ w'.cell? ⟨b, 2, none⟩ = some (.int .i64 16)) w4 := ⟨HC4.out.cw.co.at_ 1, HC4.out.cw.co.at_ 2⟩
      have k5 : IntKind.i64.wrap ((n : Int) - fi) = ((n - fi : Nat) : Int) := by rw [IntWalk.i64_in _ (by omega)]; omega
      have HF3 := Lib.hid hf3
      have hsz4 := HM5.out.size
      clear hR3 hf3 hS3e hS3l hip hfm
      go_upto_region 12 with (fail)
      go_region_held3 (fun w' : World => w'.cell? ⟨b, 1, none⟩ = some (.int .i64 c.mfn) ∧ w'.cell? ⟨b, 2, none⟩ = some (.int .i64 16)) (first | exact hS5 | assumption) ((go_at_call 45; refine (HRD.out _ (Mod.refl No w4).drew).mono ?_; rintro e w5 ⟨g2, rfl, hg1, hg2, hrow5, ho⟩; have HO := Lib.hid ho; obtain ⟨hc5, hm5⟩ := (HC4.out.no (Mod.refl No w4).drew).vout ho; have hS7 : (fun w' : World => w'.cell? ⟨b, 1, none⟩ = some (.int .i64 c.mfn) ∧ w'.cell? ⟨b, 2, none⟩ = some (.int .i64 16)) w5 := ⟨hc5.cw.co.at_ 1, hc5.cw.co.at_ 2⟩; have HC5 := Lib.hid hc5; have HM6 := Lib.hid (HM5.out.trans ((Mod.of_no (Mod.refl No w4).drew).trans hm5)); have HM45 : Hid (Mod (P3 F vk b) w4 w5) := (Mod.of_no (Mod.refl No w4).drew).trans hm5; have HROW5 := Lib.hid hrow5; have HG5 : Hid (w.heap.size ≤ g2 ∧ g2 < w5.heap.size) := ⟨by have : w4.heap.size ≤ g2 := hg1; omega, hg2⟩; clear hc5 hm5 ho hrow5 hg1 hg2))
      clear hS5 hS7 HRD
      have hf3o := HC5.out.cw.p.ok f3 (List.mem_of_getElem? HF3.out)
      obtain ⟨b2, hb2⟩ : ∃ b2, b2 = (f3.bytes.drop 16).take (n - fi) := ⟨_, rfl⟩
      have hb2l : b2.length = n - fi := by rw [hb2, List.length_take, List.length_drop, hf3o.1]; omega
      have hb2r : ∀ x ∈ b2, 0 ≤ x ∧ x ≤ 255 := fun x hx => hf3o.2 x (by rw [hb2] at hx; exact List.mem_of_mem_drop (List.mem_of_mem_take hx))
      rw [← hb2] at HROW5 HR3
      have hb1l := HB1L.out
      have hmax : (140737488355328 : Nat) ≤ maxLen := by decide
      have hgF : ¬ P3 F vk b g := fun q => by
        have h1 := HC4.out.cw.p.ltF
        have h2 := HG4.out
        have h3 := HC.out.top
        have h4 := HC.out.hb
        have h5 := HC.out.b0
        have h6 := HC.out.cw.p.ltF
        have h7 := HC.out.cw.v.d.rng
        rcases q with q | q | q <;> omega
      have hown1 := own_row (base := w.heap.size) (HM45.out.blk HROW4.out hgF) HG4.out.1 (by omega)
      rw [hb1l] at hown1
      have hown2 := own_row (base := w.heap.size) HROW5.out HG5.out.1 (by omega)
      have hl2x : b2.length ≤ 140737488355328 := Nat.le_trans (Nat.le_of_eq hb2l) (by omega)
      have HBY2 := Lib.hid (Byt.ofOwn hown2 hb2r hl2x).2.1
      rw [hb2l] at HBY2
      have hown1' : w5.ownsRow w.heap.size 5 1 (.slice (some ⟨g, 0, none⟩) fi fi) b1.length (b1.map (Value.int .u8)) := by rw [hb1l]; exact hown1
      have HO1 := Lib.hid hown1'
      have hsz5 := HM6.out.size
      have hlen12 : b1.length + b2.length ≤ 140737488355328 := by omega
      have HB2L := Lib.hid hb2l
      have HB2R := Lib.hid hb2r
      have HLEN := Lib.hid (show (b1 ++ b2).length = n by rw [List.length_append]; omega)
      clear hb2l hb2r hb2 hb1l hf3o hgF hown1 hown1' hown2 k5
      go_wp2_with (at_builtin; refine wpList_append_byt rfl _ _ rfl w.heap.size (.slice (some ⟨g, 0, none⟩) fi fi) b1 rfl HO1.out (some ⟨g2, 0, none⟩) b2 (n - fi) (by rw [HB2L.out]; rfl) HBY2.out hlen12 hsz5 ?_; intro v' w6 hown6 hgr6)
      go_meet
      rw [HR3.out]
      obtain ⟨q6, c6, rfl⟩ := owns_slice hown6
      have hby6 := Byt.ofOwn hown6 (fun x hx => by
        rcases List.mem_append.1 hx with hx | hx
        · exact HB1R.out x hx
        · exact HB2R.out x hx) (by rw [List.length_append]; exact hlen12)
      have hsz6 := hgr6.size
      have hm56 : Mod (fun k => k = g) w5 w6 := (Mod.refl _ w5).grown hgr6 (fun k ek _ => by cases ek; rfl)
      have hgo : ∀ j, j < w.heap.size → ¬ j = g := fun j hj e => by have := HG4.out; omega
      have hdw : DW B F b base top vk (N + 3) l S3 c lv pv b0 s w6 := by
        have h6 := HC.out.cw.p.ltF
        have h7 := HC.out.cw.v.d.rng
        have h8 := HC.out.top
        have h9 := HC.out.hb
        have h10 := HC.out.b0
        have hB : B < w.heap.size := by
          obtain ⟨d, _, hc⟩ := HC.out.cw.p.head
          exact lt_of_blk hc
        have h5 := HC5.out
        refine ⟨⟨h5.cw.p.kept hm56 (hgo _ hB) (hgo _ h6), h5.cw.v.kept hm56 (fun i _ ht => hgo i (by omega)), h5.cw.co.kept hm56 (hgo _ (by omega)), h5.cw.ok, h5.cw.sep⟩, h5.lp.kept hm56 (fun j hj => hgo j (HC.out.lp.low hj).2), h5.hb, h5.sep, Nat.le_trans h5.top hsz6, Nat.le_trans h5.b0 hsz6, tabs_mod h5.tabs hm56 (hgo 0 (by omega)) (hgo 1 (by omega)), h5.lo, h5.part⟩
      refine ⟨q6, c6, by rw [HLEN.out], hdw, HM6.out.step hm56 (fun i hi e => absurd e (hgo i hi)), hby6.2.1, HLEN.out, hby6.2.2⟩
    · have hlt' : ¬ (fi : Int) < n := by omega
      obtain rfl : fi = n := by omega
      have hR3 : R = (S2, N + 2, b1) := by
        rw [HR.out]
        unfold outR bytesAt
        rw [← HM.out, ← HS2E.out, if_pos (by omega), HF2.out, HB1.out]
      have hmax : (140737488355328 : Nat) ≤ maxLen := by decide
      go_wp2_with fail
      go_meet
      rw [hR3]
      have hby := (Byt.ofOwn (own_row (base := w.heap.size) HROW4.out HG4.out.1 (by have := HB1L.out; omega)) HB1R.out (by have := HB1L.out; omega)).2.1
      rw [HB1L.out] at hby
      refine ⟨_, _, rfl, HC4.out, HM5.out, hby, HB1L.out, fun bq off e => ?_⟩
      cases e
      exact HG4.out
  case rest =>
  obtain ⟨q, cap, rfl, hdw, hmw, hby, hbl, hq⟩ := hcut
  have HDW := Lib.hid hdw
  have HMW := Lib.hid hmw
  have HBY := Lib.hid hby
  have HBL := Lib.hid hbl
  have HQ := Lib.hid hq
  rename World => wz
  clear hdw hmw hby hbl hq HR HB1 HB1R HB1L HROW4 HG4 HC4 HM5 HF2 HS2E HS2L HFI
  have hszw := HMW.out.size
  have hOwn0 : ∀ j, Own2 lv pv j → j < w.heap.size := fun j hj => (HC.out.lp.low hj).2
  have HOWN0 := Lib.hid hOwn0
  clear hOwn0
  go_wp2_with fail
  go_loopw [118] (fun v wx => ∃ (i : Nat) (lv' pv' : Value), v = .int .i64 i ∧ i ≤ n ∧ DW B F b base top vk R.2.1 l R.1 c lv' pv' b0 (comesR s (R.2.2.take i)) wx ∧ Mod (fun k => k = b ∨ Own2 lv pv k) wz wx ∧ (∀ j, Own2 lv' pv' j → Own2 lv pv j ∨ wz.heap.size ≤ j)) (fun v _ => n - (intOf v).toNat)
  case atStart => exact ⟨0, lv, pv, rfl, by omega, HDW.out, Mod.refl _ _, fun j hj => .inl hj⟩
  case round =>
    obtain ⟨i, lv', pv', rfl, hi, hdwr, hmr, hnw⟩ := hrel
    have HMR := Lib.hid hmr
    have HNW := Lib.hid hnw
    by_cases hlt : i < n
    · have hlt' : (i : Int) < n := by omega
      obtain ⟨x, hx⟩ : ∃ x, R.2.2[i]? = some x := ⟨_, List.getElem?_eq_getElem (by have := HBL.out; omega)⟩
      have hxr := HBY.out.range x (List.mem_of_getElem? hx)
      obtain ⟨bq, off, rfl, _, hbc⟩ := HBY.out.at_ (by have := HBL.out; omega)
      have hbq := HQ.out bq off rfl
      have hnb : ¬ (bq = b ∨ Own2 lv pv bq) := fun e => by
        have h1 := HC.out.hb
        have h2 := HC.out.b0
        rcases e with e | e
        · omega
        · have := HOWN0.out bq e; omega
      have hcell : wr.cell? ⟨bq, off + i, none⟩ = some (.int .u8 x) := (World.cell?_of_block (w := wz) (hmr.block bq hbq.2 hnb)).trans (hbc i x hx)
      have hli := comesR_lines (R.2.2.take i) s
      rw [List.length_take] at hli
      have HCM := Lib.hid (hdwr.come x hxr (by omega))
      have hsn := comesR_snoc s (R.2.2.take i) x
      rw [show R.2.2.take i ++ [x] = R.2.2.take (i + 1) by rw [List.take_add_one, hx]; rfl] at hsn
      rw [← hsn] at HCM
      have hszr := hmr.size
      clear hdwr hmr hnw hx hbc hnb hsn hli hbq
      go_wp2_with (go_at_call 46; refine HCM.out.mono ?_; rintro e w5 ⟨lv2, pv2, rfl, hdw2, hm2, hnew2⟩; have HDW2 := Lib.hid hdw2; have HM2b := Lib.hid hm2; have HNEW2 := Lib.hid hnew2; clear hdw2 hm2 hnew2)
      go_roundw
      case rel =>
        refine ⟨i + 1, lv2, pv2, by go_num, by omega, HDW2.out, HMR.out.step HM2b.out (fun k hk e => ?_), fun j hj => ?_⟩
        · rcases e with e | e
          · exact .inl e
          · rcases HNW.out k e with e | e
            · exact .inr e
            · omega
        · rcases HNEW2.out j hj with e | e
          · exact HNW.out j e
          · exact .inr (by omega)
      case measure => simp [intOf]; omega
    · obtain rfl : i = n := by omega
      have hni : ¬ (i : Int) < (i : Int) := by omega
      have htk : R.2.2.take i = R.2.2 := List.take_of_length_le (by have := HBL.out; omega)
      rw [htk] at hdwr
      have HDWR := Lib.hid hdwr
      have c6 : wr.cell? ⟨b, 6, none⟩ = some (.int .u16 c.om) := hdwr.cw.co.at_ 6
      have f6 := hdwr.cw.co.free 6
      have q1 : IntKind.u16.wrap (i : Int) = i := IntWalk.u16_in _ (by omega)
      have q2 : IntKind.u16.wrap (c.om + (i : Int)) = (c.om + i) % 65536 := rfl
      have hszr := hmr.size
      clear hdwr hmr hnw htk
      go_upto_region 20 with (fail)
      obtain ⟨hc6, hm6⟩ := HDWR.out.cw.set 6 (.int .u16 ((c.om + i) % 65536)) (HDWR.out.cw.co.setO ((c.om + i) % 65536)) ⟨by simp only; omega, HDWR.out.cw.ok.i⟩
      have HD6 := Lib.hid (HDWR.out.step hc6 hm6)
      have HM6 := Lib.hid hm6
      clear hc6 hm6 c6 f6 q1 q2
      generalize wr.setCell ⟨b, 6, none⟩ (.int .u16 ((c.om + i) % 65536)) = w6 at HD6 HM6 ⊢
      have HTL : Hid (∀ w', Mod No w6 w' → Calls Tryd.prog 43 #[.pointer (some ⟨b, 2, none⟩), .pointer (some ⟨vk.V, 0, none⟩), .int .i64 c.mfn] w' fun e w2 => e = .returned (.tuple #[]) ∧ CW B F b base top vk R.2.1 l (wrR R.1 c.mfn 2 (twoB ((c.om + i) % 65536))) { c with om := (c.om + i) % 65536 } lv' pv' w2 ∧ Mod (One F) w' w2) := fun w' hm => tell_out w' (HD6.out.no hm).cw
      have hS4 : (fun w' : World => w'.cell? ⟨b, 1, none⟩ = some (.int .i64 c.mfn)) w6 := HD6.out.cw.co.at_ 1
      go_region_held3 (fun w' : World => w'.cell? ⟨b, 1, none⟩ = some (.int .i64 c.mfn)) (first | exact hS4 | assumption) ((go_at_call 43; refine (HTL.out _ (Mod.refl No w6).drew).mono ?_; rintro e w7 ⟨rfl, hc7, hm7⟩; have hS5 : (fun w' : World => w'.cell? ⟨b, 1, none⟩ = some (.int .i64 c.mfn)) w7 := hc7.co.at_ 1; have HC7 := Lib.hid hc7; have HM7 : Hid (Mod (P3 F vk b) w6 w7) := (Mod.of_no (Mod.refl No w6).drew).trans (hm7.mono (fun j _ (e : j = F) => .inl e)); clear hc7 hm7))
      go_wp2
      go_ret3
      refine ⟨lv', pv', rfl, HD6.out.step HC7.out HM7.out, ?_, fun j hj => ?_⟩
      · exact (((HMW.out.mono (fun j _ e => .inl e)).trans ((HMR.out.mono (fun j _ e => e.elim (fun e => .inl (.inr (.inr e))) .inr)).step HM6.out (fun j _ e => .inl e))).step HM7.out (fun j _ e => .inl e))
      · rcases HNW.out j hj with e | e
        · exact .inl e
        · exact .inr (by omega)

end Go.Proofs.YtmdeljacbekbpaaDoor
