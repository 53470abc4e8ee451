/- tenementref16.Console.Drain. -/
import Derived.Test.YtmdeljacbekbpaaDoorRefConW
import Derived.Test.YtmdeljacbekbpaaDoorConsDrain
namespace Go.Proofs.YtmdeljacbekbpaaDoor
open Go.RowKit
set_option maxRecDepth 100000

set_option maxHeartbeats 4000000 in
theorem rdrain_bad {w0 : World} {X : Nat} {K : RfK} {q : Option Addr} {cap : Nat} {l : List Pk} {N : Int} {S : List Fr} {c : Nat} {o : Co} {lv pv : Value} {b0 : Nat} {s : List (List Int) × List Int} (w : World) (h : RCV w0 X K q cap l N S c o lv pv b0 s w) (hs : PkS w0 q l) (hN : 0 ≤ N ∧ N < 4611686018427387904) (hl : l.length ≤ 140737488355328) (hp : ¬ InP S o.mfn 0 2) :
    Calls Tryd.prog 48 #[.pointer (some ⟨c, 0, none⟩), .pointer (some ⟨X, 0, none⟩)] w fun e w' => e = .returned (.tuple #[.int .i64 0, .bool false, .int .i64 1]) ∧ RCV w0 X K q cap l (N + 1) (pokes (dueAt l N) S) c o lv pv b0 s w' ∧ Mod (Q4 K X c lv pv) w w' := by
  have c0 : w.cell? ⟨c, 0, none⟩ = some (.int .i64 o.mfn) := h.rc.at_ 0
  have HC := Lib.hid h
  have HWD := Lib.hid (rvword_bad o.mfn 0 w0 w hs h.mod h.hK h.r h.x hN hl hp)
  clear h hp
  go_enter Tryd.func48, Tryd.ntmps48
  go_wp2_with fail
  refine HWD.out.mono ?_
  rintro e w2 ⟨rfl, ho⟩
  have HO := Lib.hid ho
  clear ho
  go_wp2
  go_ret3
  exact ⟨rfl, (HC.out.rvout HO.out).1, (HC.out.rvout HO.out).2⟩

theorem RCV.other {Q : Nat → Prop} {w0 : World} {X : Nat} {K : RfK} {q : Option Addr} {cap : Nat} {l : List Pk} {N : Int} {S : List Fr} {c : Nat} {o : Co} {lv pv : Value} {b0 : Nat} {s : List (List Int) × List Int} {w w' : World} (h : RCV w0 X K q cap l N S c o lv pv b0 s w) (hm : Mod Q w w')
    (hq : ∀ i, Q i → ¬ K.has i ∧ i ≠ X ∧ i ≠ c ∧ ¬ Own2 lv pv i ∧ w0.heap.size ≤ i) : RCV w0 X K q cap l N S c o lv pv b0 s w' :=
  ⟨h.r.kept hm (fun i hi q => (hq i q).1 hi), h.x.kept hm (fun q => (hq _ q).2.1 rfl), h.rc.kept hm (fun q => (hq _ q).2.2.1 rfl), h.lp.kept hm (fun j hj q => (hq j q).2.2.2.1 hj), h.ok, h.part, h.mod.step hm (fun i hi q => by have := (hq i q).2.2.2.2; omega), h.hK, h.hX, h.far, h.hb, Nat.le_trans h.hb0 hm.size, h.ne, Nat.lt_of_lt_of_le h.top.1 hm.size, fun j hj => Nat.lt_of_lt_of_le (h.top.2 j hj) hm.size⟩
/-- .. of blocks that are newer. -/
theorem RCV.newer {Q : Nat → Prop} {w0 : World} {X : Nat} {K : RfK} {q : Option Addr} {cap : Nat} {l : List Pk} {N N' : Int} {S S' : List Fr} {c : Nat} {o : Co} {lv pv : Value} {b0 : Nat} {s : List (List Int) × List Int} {w w1 w' : World} (h0 : RCV w0 X K q cap l N S c o lv pv b0 s w) (h : RCV w0 X K q cap l N' S' c o lv pv b0 s w1) (hm : Mod Q w1 w')
    (hq : ∀ i, Q i → w.heap.size ≤ i) : RCV w0 X K q cap l N' S' c o lv pv b0 s w' :=
  h.other hm (fun i hi => by
    have h1 := hq i hi
    have h2 := h0.top
    have h3 := h0.hb
    have h4 := h0.hb0
    have h5 := h0.mod.size
    exact ⟨fun e => by have := h2.2 i e; omega, by omega, by omega, fun e => by have := (h0.lp.low e).2; omega, by omega⟩)

/-- What Drain leaves. -/
def RDrainPost (w0 : World) (X : Nat) (K : RfK) (q : Option Addr) (cap : Nat) (l : List Pk) (N : Int) (S : List Fr) (c : Nat) (o : Co) (lv pv : Value) (b0 : Nat) (s : List (List Int) × List Int) (n : Nat) (ahead : Int) (w : World) (e : Ending) (w' : World) : Prop :=
  ∃ lv' pv', e = .returned (.tuple #[.int .i64 n, .bool (decide (128 < ahead)), .int .i64 0]) ∧
    RCV w0 X K q cap l N S c o lv' pv' b0 s w' ∧ Mod (Q4 K X c lv pv) w w' ∧ ∀ j, Own2 lv' pv' j → Own2 lv pv j ∨ w.heap.size ≤ j

set_option maxHeartbeats 16000000 in
theorem rdrain_ok {w0 : World} {X : Nat} {K : RfK} {q : Option Addr} {cap : Nat} {l : List Pk} {N : Int} {S : List Fr} {c : Nat} {o : Co} {lv pv : Value} {b0 : Nat} {s : List (List Int) × List Int} (f : Fr) (w : World) (h : RCV w0 X K q cap l N S c o lv pv b0 s w) (hs : PkS w0 q l) (hN : 0 ≤ N ∧ N < 4611686018427387900) (hl : l.length ≤ 140737488355328) (hp : InP S o.mfn 0 2) (hf : (pokes (dueAt l N) S)[o.mfn.toNat]? = some f)
    (ahead : Int) (ha : ahead = (word2 ((f.bytes.drop 0).take 2) - o.om) % 65536) (n : Nat) (hn : (n : Int) = min ahead 128) (hls : (s.1.length + 129) * 16 ≤ 140737488355328) (R : List Fr × Int × List Int) (hR : R = outR l N (pokes (dueAt l N) S) o.mfn o.om n) :
    Calls Tryd.prog 48 #[.pointer (some ⟨c, 0, none⟩), .pointer (some ⟨X, 0, none⟩)] w
      (RDrainPost w0 X K q cap l R.2.1 (wrR R.1 o.mfn 2 (twoB ((o.om + n) % 65536))) c { o with om := (o.om + n) % 65536 } lv pv b0 (comesR s R.2.2) n ahead w) := by
  have c0 : w.cell? ⟨c, 0, none⟩ = some (.int .i64 o.mfn) := h.rc.at_ 0
  have HC := Lib.hid h
  have HPS := Lib.hid hs
  have HWD := Lib.hid (rvword_ok o.mfn 0 f w0 w hs h.mod h.hK h.r h.x ⟨hN.1, by omega⟩ hl hp hf)
  obtain ⟨ix, hix⟩ : ∃ ix, ix = word2 ((f.bytes.drop 0).take 2) := ⟨_, rfl⟩
  rw [show ((0 : Int).toNat) = 0 from rfl, ← hix] at HWD
  rw [← hix] at ha
  have hlen1 : (pokes (dueAt l N) S).length = S.length := pokes_len _ _
  generalize pokes (dueAt l N) S = S1 at HWD hR hlen1 ⊢
  have hom := h.ok.o
  have hdw : IntKind.u16.wrap (ix - o.om) = ahead := by rw [ha]; rfl
  have hdr : 0 ≤ ahead ∧ ahead ≤ 65535 := by omega
  have HNL := Lib.hid hN
  have HLL := Lib.hid hl
  have HP : Hid (InP S1 o.mfn 0 2) := inP_len hlen1 hp
  clear h hp hf hix ha hN hl hlen1 hs
  go_enter Tryd.func48, Tryd.ntmps48
  go_wp2_with fail
  refine HWD.out.mono ?_
  rintro e w2 ⟨rfl, ho⟩
  obtain ⟨hc2, hm2⟩ := HC.out.rvout ho
  have HC2 := Lib.hid hc2
  have HM2 := Lib.hid hm2
  have c1 : w2.cell? ⟨c, 1, none⟩ = some (.int .u16 o.om) := hc2.rc.at_ 1
  have c20 : w2.cell? ⟨c, 0, none⟩ = some (.int .i64 o.mfn) := hc2.rc.at_ 0
  clear hc2 hm2 ho c0 HWD
  go_upto_region 6 with (fail)
  go_cut [9] from 39 to 40 (fun v2 wx => v2 = .int .i64 n ∧ wx = w2)
  case first =>
    go_wp2_with fail
    all_goals go_meet
    all_goals exact ⟨by congr 1; omega, rfl⟩
  case rest =>
  obtain ⟨rfl, hwc⟩ := hcut
  obtain rfl : w2 = wc := hwc.symm
  clear hwc
  obtain ⟨m, hm⟩ : ∃ m, m = o.om % 128 := ⟨_, rfl⟩
  have hmr : 0 ≤ m ∧ m < 128 := by omega
  have z1 : o.om.tmod 128 = m := by rw [hm, Int.tmod_eq_emod_of_nonneg hom.1]
  have HM := Lib.hid hm
  clear hm
  obtain ⟨fi, hfi⟩ : ∃ fi : Nat, (fi : Int) = min (n : Int) (128 - m) := ⟨(min (n : Int) (128 - m)).toNat, by omega⟩
  have hfi1 : fi ≤ n ∧ (fi : Int) ≤ 128 - m := by omega
  have HFI := Lib.hid hfi
  clear hfi
  have k3 : IntKind.i64.wrap (128 - m) = 128 - m := IntWalk.i64_in _ (by omega)
  have k4 : IntKind.i64.wrap m = m := IntWalk.i64_in _ (by omega)
  have k5 : IntKind.u16.wrap m = m := IntWalk.u16_in _ (by omega)
  have k6 : IntKind.i64.wrap (16 + m) = 16 + m := IntWalk.i64_in _ (by omega)
  have hn128 : n ≤ 128 := by omega
  clear hn hdw
  go_upto_region 8 with (fail)
  go_cut [12] from 47 to 50 (fun v2 wx => v2 = .int .i64 fi ∧ wx = w2)
  case first =>
    go_wp2_with fail
    all_goals go_meet
    all_goals exact ⟨by congr 1; have := HFI.out; omega, rfl⟩
  case rest =>
  obtain ⟨rfl, hwc⟩ := hcut
  obtain rfl : w2 = wc := hwc.symm
  clear hwc
  have hsz2 := HM2.out.size
  obtain ⟨S2, hS2e⟩ : ∃ S2, S2 = pokes (dueAt l (N + 1)) S1 := ⟨_, rfl⟩
  have hS2l : S2.length = S1.length := by rw [hS2e]; exact pokes_len _ _
  obtain ⟨f2, hf2⟩ : ∃ f2, S2[o.mfn.toNat]? = some f2 := ⟨_, List.getElem?_eq_getElem (by have := HP.out.1; omega)⟩
  have hip : InP S1 o.mfn (16 + m) fi := ⟨HP.out.1, by omega, by omega, by omega⟩
  have HRD : Hid (Calls Tryd.prog 63 #[.pointer (some ⟨X, 0, none⟩), .int .i64 o.mfn, .int .i64 (16 + m), .int .i64 fi] w2 fun e w4 => ∃ g gc, e = .returned (.tuple #[.slice g fi gc, .int .i64 0]) ∧ w4.ownsRow w2.heap.size 5 1 (.slice g fi gc) fi (((f2.bytes.drop (16 + m).toNat).take fi).map (Value.int .u8)) ∧ RVOut X K q cap l (N + 2) S2 w2 w4) := by
    have hr := rvread_ok o.mfn (16 + m) fi f2 w0 w2 HPS.out HC2.out.mod HC2.out.hK HC2.out.r HC2.out.x ⟨by have := HNL.out; omega, by have := HNL.out; omega⟩ HLL.out hip (by rw [← hS2e]; exact hf2)
    rw [Int.toNat_natCast, ← hS2e, show N + 1 + 1 = N + 2 by omega] at hr
    exact hr
  have HF2 := Lib.hid hf2
  have HS2E := Lib.hid hS2e
  have HS2L := Lib.hid hS2l
  clear hip hf2 hS2e hS2l c1 z1
  go_wp2_with fail
  refine HRD.out.mono ?_
  rintro e w4 ⟨g, gc, rfl, hown4, ho⟩
  obtain ⟨hc4, hm4⟩ := HC2.out.rvout ho
  have HC4 := Lib.hid hc4
  have HM5 := Lib.hid (HM2.out.trans hm4)
  have HOW4 := Lib.hid hown4
  have hf2o := hc4.r.ok f2 (List.mem_of_getElem? HF2.out)
  obtain ⟨b1, hb1⟩ : ∃ b1, b1 = (f2.bytes.drop (16 + m).toNat).take fi := ⟨_, rfl⟩
  have hb1l : b1.length = fi := by rw [hb1, List.length_take, List.length_drop, hf2o.1]; omega
  have hb1r : ∀ x ∈ b1, 0 ≤ x ∧ x ≤ 255 := fun x hx => hf2o.2 x (by rw [hb1] at hx; exact List.mem_of_mem_drop (List.mem_of_mem_take hx))
  rw [← hb1] at HOW4
  have HB1 := Lib.hid hb1
  have HB1L := Lib.hid hb1l
  have HB1R := Lib.hid hb1r
  have HR := Lib.hid hR
  have hsz4 := HM5.out.size
  have c40 : w4.cell? ⟨c, 0, none⟩ = some (.int .i64 o.mfn) := hc4.rc.at_ 0
  clear hf2o hb1 hb1l hb1r hR hc4 hm4 ho hown4 c20 HRD
  go_upto_if 65 with (fail)
  go_cut [13, 15, 16] from 65 to 80 (fun v13 _ _ wx => ∃ qq cc, v13 = .slice qq n cc ∧ RCV w0 X K q cap l R.2.1 R.1 c o lv pv b0 s wx ∧ Mod (Q4 K X c lv pv) w wx ∧ Byt wx qq R.2.2 cc ∧ R.2.2.length = n ∧ ∀ bq off, qq = some ⟨bq, off, none⟩ → w.heap.size ≤ bq ∧ bq < wx.heap.size)
  case first =>
    by_cases hlt : fi < n
    · have hlt' : (fi : Int) < n := by omega
      have hfm : (fi : Int) = 128 - m := by have := HFI.out; omega
      obtain ⟨S3, hS3e⟩ : ∃ S3, S3 = pokes (dueAt l (N + 2)) S2 := ⟨_, rfl⟩
      have hS3l : S3.length = S2.length := by rw [hS3e]; exact pokes_len _ _
      obtain ⟨f3, hf3⟩ : ∃ f3, S3[o.mfn.toNat]? = some f3 := ⟨_, List.getElem?_eq_getElem (by have := HP.out.1; have := HS2L.out; omega)⟩
      have hip : InP S2 o.mfn 16 ((n - fi : Nat) : Int) := inP_len HS2L.out ⟨HP.out.1, by omega, by omega, by omega⟩
      have HRD : Hid (Calls Tryd.prog 63 #[.pointer (some ⟨X, 0, none⟩), .int .i64 o.mfn, .int .i64 16, .int .i64 ((n - fi : Nat) : Int)] w4 fun e w5 => ∃ g2 c2, e = .returned (.tuple #[.slice g2 (n - fi) c2, .int .i64 0]) ∧ w5.ownsRow w4.heap.size 5 1 (.slice g2 (n - fi) c2) (n - fi) (((f3.bytes.drop 16).take (n - fi)).map (Value.int .u8)) ∧ RVOut X K q cap l (N + 3) S3 w4 w5) := by
        have hr := rvread_ok o.mfn 16 ((n - fi : Nat) : Int) f3 w0 w4 HPS.out HC4.out.mod HC4.out.hK HC4.out.r HC4.out.x ⟨by have := HNL.out; omega, by have := HNL.out; omega⟩ HLL.out hip (by rw [← hS3e]; exact hf3)
        rw [Int.toNat_natCast, ← hS3e, show N + 2 + 1 = N + 3 by omega] at hr
        exact hr
      have hR3 : R = (S3, N + 3, b1 ++ (f3.bytes.drop 16).take (n - fi)) := by
        rw [HR.out]
        unfold outR bytesAt
        rw [← HM.out, ← HS2E.out, ← hS3e, if_neg (by omega), HF2.out, hf3, HB1.out, show 128 - m.toNat = fi by omega]
        rfl
      have HR3 := Lib.hid hR3
      have k5 : IntKind.i64.wrap ((n : Int) - fi) = ((n - fi : Nat) : Int) := by rw [IntWalk.i64_in _ (by omega)]; omega
      have HF3 := Lib.hid hf3
      clear hR3 hf3 hS3e hS3l hip hfm
      go_wp2_with fail
      refine HRD.out.mono ?_
      rintro e w5 ⟨g2, c2, rfl, hown5, ho5⟩
      obtain ⟨hc5, hm45⟩ := HC4.out.rvout ho5
      have HC5 := Lib.hid hc5
      have HM6 := Lib.hid (HM5.out.trans hm45)
      have hf3o := hc5.r.ok f3 (List.mem_of_getElem? HF3.out)
      obtain ⟨b2, hb2⟩ : ∃ b2, b2 = (f3.bytes.drop 16).take (n - fi) := ⟨_, rfl⟩
      have hb2l : b2.length = n - fi := by rw [hb2, List.length_take, List.length_drop, hf3o.1]; omega
      have hb2r : ∀ x ∈ b2, 0 ≤ x ∧ x ≤ 255 := fun x hx => hf3o.2 x (by rw [hb2] at hx; exact List.mem_of_mem_drop (List.mem_of_mem_take hx))
      rw [← hb2] at HR3 hown5
      have hb1l := HB1L.out
      have hl2x : b2.length ≤ 140737488355328 := by omega
      have HBY2 := Lib.hid (Byt.ofOwn hown5 hb2r hl2x).2.1
      have ho4k := own_kept HOW4.out ho5.mod (fun j ej e => by
        have h1 := (HOW4.out.lt j ej).1
        rcases e with e | e
        · have := HC2.out.top.2 j (RfK.inn_has e); omega
        · have := HC2.out.top.1; omega)
      have hown1' : w5.ownsRow w.heap.size 5 1 (.slice g fi gc) b1.length (b1.map (Value.int .u8)) := by rw [hb1l]; exact ownsRow_base ho4k hsz2
      have HO1 := Lib.hid hown1'
      have hsz5 := HM6.out.size
      have hlen12 : b1.length + b2.length ≤ 140737488355328 := by omega
      have HB2L := Lib.hid hb2l
      have HB2R := Lib.hid hb2r
      have HLEN := Lib.hid (show (b1 ++ b2).length = n by rw [List.length_append]; omega)
      have HOWN2 : Hid (∀ k, (Value.slice g fi gc).ownBlock = some k → w2.heap.size ≤ k) := fun k ek => (HOW4.out.lt k ek).1
      clear hb2l hb2r hb2 hb1l hf3o hown1' hown5 k5 hc5 hm45 ho5 ho4k HRD
      go_wp2_with (at_builtin; refine wpList_append_byt rfl _ _ rfl w.heap.size (.slice g fi gc) b1 rfl HO1.out g2 b2 c2 (by rw [HB2L.out]; rfl) HBY2.out hlen12 hsz5 ?_; intro v' w6 hown6 hgr6)
      go_meet
      rw [HR3.out]
      obtain ⟨q6, c6, rfl⟩ := owns_slice hown6
      have hby6 := Byt.ofOwn hown6 (fun x hx => by
        rcases List.mem_append.1 hx with hx | hx
        · exact HB1R.out x hx
        · exact HB2R.out x hx) (by rw [List.length_append]; exact hlen12)
      have hm56 : Mod (fun k => (Value.slice g fi gc).ownBlock = some k) w5 w6 := (Mod.refl _ w5).grown hgr6 (fun k ek _ => ek)
      refine ⟨q6, c6, by rw [HLEN.out], HC2.out.newer HC5.out hm56 HOWN2.out, HM6.out.step hm56 (fun i hi e => ?_), hby6.2.1, HLEN.out, hby6.2.2⟩
      have := HOWN2.out i e
      omega
    · have hlt' : ¬ (fi : Int) < n := by omega
      obtain rfl : fi = n := by omega
      have hR3 : R = (S2, N + 2, b1) := by
        rw [HR.out]
        unfold outR bytesAt
        rw [← HM.out, ← HS2E.out, if_pos (by omega), HF2.out, HB1.out]
      go_wp2_with fail
      go_meet
      rw [hR3]
      have hby := Byt.ofOwn (ownsRow_base HOW4.out hsz2) HB1R.out (by have := HB1L.out; omega)
      exact ⟨_, _, rfl, HC4.out, HM5.out, hby.2.1, HB1L.out, hby.2.2⟩
  case rest =>
  obtain ⟨qq, cc, rfl, hdw, hmw, hby, hbl, hq⟩ := hcut
  have HDW := Lib.hid hdw
  have HMW := Lib.hid hmw
  have HBY := Lib.hid hby
  have HBL := Lib.hid hbl
  have HQ := Lib.hid hq
  rename World => wz
  clear hdw hmw hby hbl hq HR HB1 HB1R HB1L HC4 HM5 HF2 HS2E HS2L HFI
  have hszw := HMW.out.size
  have hOwn0 : ∀ j, Own2 lv pv j → j < w.heap.size := fun j hj => (HC.out.lp.low hj).2
  have HOWN0 := Lib.hid hOwn0
  clear hOwn0
  go_wp2_with fail
  go_loopw [17] (fun v wx => ∃ (i : Nat) (lv' pv' : Value), v = .int .i64 i ∧ i ≤ n ∧ RCV w0 X K q cap l R.2.1 R.1 c o lv' pv' b0 (comesR s (R.2.2.take i)) wx ∧ Mod (fun k => k = c ∨ Own2 lv pv k) wz wx ∧ (∀ j, Own2 lv' pv' j → Own2 lv pv j ∨ wz.heap.size ≤ j)) (fun v _ => n - (intOf v).toNat)
  case atStart => exact ⟨0, lv, pv, rfl, by omega, HDW.out, Mod.refl _ _, fun j hj => .inl hj⟩
  case round =>
    obtain ⟨i, lv', pv', rfl, hi, hdwr, hmr, hnw⟩ := hrel
    have HMR := Lib.hid hmr
    have HNW := Lib.hid hnw
    by_cases hlt : i < n
    · have hlt' : (i : Int) < n := by omega
      obtain ⟨x, hx⟩ : ∃ x, R.2.2[i]? = some x := ⟨_, List.getElem?_eq_getElem (by have := HBL.out; omega)⟩
      have hxr := HBY.out.range x (List.mem_of_getElem? hx)
      obtain ⟨bq, off, rfl, _, hbc⟩ := HBY.out.at_ (by have := HBL.out; omega)
      have hbq := HQ.out bq off rfl
      have hnb : ¬ (bq = c ∨ Own2 lv pv bq) := fun e => by
        have h1 := HC.out.hb
        have h2 := HC.out.hb0
        rcases e with e | e
        · omega
        · have := HOWN0.out bq e; omega
      have hcell : wr.cell? ⟨bq, off + i, none⟩ = some (.int .u8 x) := (World.cell?_of_block (w := wz) (hmr.block bq hbq.2 hnb)).trans (hbc i x hx)
      have hli := comesR_lines (R.2.2.take i) s
      rw [List.length_take] at hli
      have HCM := Lib.hid (hdwr.come x hxr (by omega))
      have hsn := comesR_snoc s (R.2.2.take i) x
      rw [show R.2.2.take i ++ [x] = R.2.2.take (i + 1) by rw [List.take_add_one, hx]; rfl] at hsn
      rw [← hsn] at HCM
      have hszr := hmr.size
      clear hdwr hmr hnw hx hbc hnb hsn hli hbq
      go_wp2_with (go_at_call 64; refine HCM.out.mono ?_; rintro e w5 ⟨lv2, pv2, rfl, hdw2, hm2, hnew2⟩; have HDW2 := Lib.hid hdw2; have HM2b := Lib.hid hm2; have HNEW2 := Lib.hid hnew2; clear hdw2 hm2 hnew2)
      go_roundw
      case rel =>
        refine ⟨i + 1, lv2, pv2, by go_num, by omega, HDW2.out, HMR.out.step HM2b.out (fun k hk e => ?_), fun j hj => ?_⟩
        · rcases e with e | e
          · exact .inl e
          · rcases HNW.out k e with e | e
            · exact .inr e
            · omega
        · rcases HNEW2.out j hj with e | e
          · exact HNW.out j e
          · exact .inr (by omega)
      case measure => simp [intOf]; omega
    · obtain rfl : i = n := by omega
      have hni : ¬ (i : Int) < (i : Int) := by omega
      have htk : R.2.2.take i = R.2.2 := List.take_of_length_le (by have := HBL.out; omega)
      rw [htk] at hdwr
      have HDWR := Lib.hid hdwr
      have c61 : wr.cell? ⟨c, 1, none⟩ = some (.int .u16 o.om) := hdwr.rc.at_ 1
      have f61 := hdwr.rc.free 1
      have q1 : IntKind.u16.wrap (i : Int) = i := IntWalk.u16_in _ (by omega)
      have q2 : IntKind.u16.wrap (o.om + (i : Int)) = (o.om + i) % 65536 := rfl
      have hszr := hmr.size
      clear hdwr hmr hnw htk
      go_upto_region 18 with (fail)
      obtain ⟨hc6, hm6⟩ := HDWR.out.set 1 (.int .u16 ((o.om + i) % 65536)) (HDWR.out.rc.setO ((o.om + i) % 65536)) ⟨by simp only; omega, HDWR.out.ok.i⟩
      have HD6 := Lib.hid hc6
      have HM6 := Lib.hid hm6
      clear hc6 hm6 c61 f61 q1 q2
      generalize wr.setCell ⟨c, 1, none⟩ (.int .u16 ((o.om + i) % 65536)) = w6 at HD6 HM6 ⊢
      obtain ⟨om2, hom2⟩ : ∃ om2, om2 = (o.om + i) % 65536 := ⟨_, rfl⟩
      have hom3 : 0 ≤ om2 ∧ om2 ≤ 65535 := by omega
      rw [← hom2] at HD6
      have HOM2 := Lib.hid hom2
      clear hom2
      have HWR : Hid (∀ w' g, Mod No w6 w' → w'.heap[g]? = some (.cells ((twoB om2).map (Value.int .u8)).toArray 5 (0, 0)) → w6.heap.size ≤ g → Calls Tryd.prog 51 #[.pointer (some ⟨K.R, 0, none⟩), .int .i64 o.mfn, .int .i64 2, .slice (some ⟨g, 0, none⟩) 2 2] w' fun e w2 => (∃ v, e = .returned v) ∧ RCV w0 X K q cap l R.2.1 (wrR R.1 o.mfn 2 (twoB om2)) c { o with om := om2 } lv' pv' b0 (comesR s R.2.2) w2 ∧ Mod (Q4 K X c lv' pv') w6 w2) := fun w' g hm hrow hg => by
        have hd := HD6.out.no hm
        refine (rwrite16 o.mfn 2 (some ⟨g, 0, none⟩) 2 (twoB om2) w' hd.r (twoB_range hom3) (fun _ => ⟨g, 0, rfl, fun e => ?_, by simp [twoB], fun j x hj => ?_⟩)).mono ?_
        · have := HD6.out.top.2 g (RfK.inn_has e); omega
        · rw [Nat.zero_add, row_cell hrow, List.getElem?_map, hj]; rfl
        · rintro e w2 ⟨rfl, hm2, hr2⟩
          exact ⟨⟨_, rfl⟩, (hd.wrote hm2 hr2).1, (Mod.of_no hm).trans (hd.wrote hm2 hr2).2⟩
      have hS4 : (fun w' : World => w'.cell? ⟨X, 0, none⟩ = some (.pointer (some ⟨K.R, 0, none⟩)) ∧ w'.cell? ⟨c, 0, none⟩ = some (.int .i64 o.mfn) ∧ w'.cell? ⟨c, 1, none⟩ = some (.int .u16 om2)) w6 := ⟨HD6.out.x.c.1, HD6.out.rc.at_ 0, HD6.out.rc.at_ 1⟩
      go_region_held3 (fun w' : World => w'.cell? ⟨X, 0, none⟩ = some (.pointer (some ⟨K.R, 0, none⟩)) ∧ w'.cell? ⟨c, 0, none⟩ = some (.int .i64 o.mfn) ∧ w'.cell? ⟨c, 1, none⟩ = some (.int .u16 om2)) (first | exact hS4 | assumption) (first
        | (go_at_call 65; refine (rtwo16 _ _ hom3).mono ?_; rintro e w7 ⟨rfl, hm7, hs7, hrow7⟩; have HM7 : Hid (Mod No w6 w7) := (Mod.refl No w6).drew.trans hm7; have hS5 : (fun w' : World => w'.cell? ⟨X, 0, none⟩ = some (.pointer (some ⟨K.R, 0, none⟩)) ∧ w'.cell? ⟨c, 0, none⟩ = some (.int .i64 o.mfn) ∧ w'.cell? ⟨c, 1, none⟩ = some (.int .u16 om2)) w7 := ⟨(HD6.out.no HM7.out).x.c.1, (HD6.out.no HM7.out).rc.at_ 0, (HD6.out.no HM7.out).rc.at_ 1⟩; have HROW7 := Lib.hid hrow7; clear hm7 hs7 hrow7)
        | (go_at_call 51; refine (HWR.out w7 _ HM7.out HROW7.out (Nat.le_refl _)).mono ?_; rintro e w8 ⟨⟨v8, rfl⟩, hd8, hm8⟩; have hS6 : (fun w' : World => w'.cell? ⟨X, 0, none⟩ = some (.pointer (some ⟨K.R, 0, none⟩)) ∧ w'.cell? ⟨c, 0, none⟩ = some (.int .i64 o.mfn) ∧ w'.cell? ⟨c, 1, none⟩ = some (.int .u16 om2)) w8 := ⟨hd8.x.c.1, hd8.rc.at_ 0, hd8.rc.at_ 1⟩; have HD8 := Lib.hid hd8; have HM8 := Lib.hid hm8; clear hd8 hm8))
      go_wp2
      go_ret3
      have hq : ∀ k, k < w.heap.size → Q4 K X c lv' pv' k → Q4 K X c lv pv k := fun k hk e => by
        rcases e with e | e | e | e
        · exact .inl e
        · exact .inr (.inl e)
        · exact .inr (.inr (.inl e))
        · rcases HNW.out k e with e | e
          · exact .inr (.inr (.inr e))
          · omega
      have h8 := HD8.out
      rw [HOM2.out] at h8
      refine ⟨lv', pv', rfl, h8, ?_, fun j hj => ?_⟩
      · exact ((HMW.out.trans (HMR.out.mono (fun j _ e => e.elim (fun e => .inr (.inr (.inl e))) (fun e => .inr (.inr (.inr e)))))).step HM6.out hq).step HM8.out hq
      · rcases HNW.out j hj with e | e
        · exact .inl e
        · exact .inr (by omega)

end Go.Proofs.YtmdeljacbekbpaaDoor
