/- tenementref16.Console.Feed. -/
import Derived.Test.YtmdeljacbekbpaaDoorRefDrain
namespace Go.Proofs.YtmdeljacbekbpaaDoor
open Go.RowKit
set_option maxRecDepth 100000

set_option maxHeartbeats 4000000 in
theorem rfeed_bad {w0 : World} {X : Nat} {K : RfK} {q : Option Addr} {cap : Nat} {l : List Pk} {N : Int} {S : List Fr} {c : Nat} {o : Co} {lv pv : Value} {b0 : Nat} {s : List (List Int) × List Int} (qb : Option Addr) (n bcap : Nat) (w : World) (h : RCV w0 X K q cap l N S c o lv pv b0 s w) (hs : PkS w0 q l) (hN : 0 ≤ N ∧ N < 4611686018427387904) (hl : l.length ≤ 140737488355328) (hp : ¬ InP S o.mfn 4 2) :
    Calls Tryd.prog 50 #[.pointer (some ⟨c, 0, none⟩), .pointer (some ⟨X, 0, none⟩), .slice qb n bcap] w fun e w' => e = .returned (.tuple #[.int .i64 0, .int .i64 1]) ∧ RCV w0 X K q cap l (N + 1) (pokes (dueAt l N) S) c o lv pv b0 s w' ∧ Mod (Q4 K X c lv pv) w w' := by
  have c0 : w.cell? ⟨c, 0, none⟩ = some (.int .i64 o.mfn) := h.rc.at_ 0
  have HC := Lib.hid h
  have HWD := Lib.hid (rvword_bad o.mfn 4 w0 w hs h.mod h.hK h.r h.x hN hl hp)
  clear h hp
  go_enter Tryd.func50, Tryd.ntmps50
  go_wp2_with fail
  refine HWD.out.mono ?_
  rintro e w2 ⟨rfl, ho⟩
  have HO := Lib.hid ho
  clear ho
  go_wp2
  go_ret2
  exact ⟨rfl, (HC.out.rvout HO.out).1, (HC.out.rvout HO.out).2⟩

set_option maxHeartbeats 16000000 in
theorem rfeed_ok {w0 : World} {X : Nat} {K : RfK} {q : Option Addr} {cap : Nat} {l : List Pk} {N : Int} {S : List Fr} {c : Nat} {o : Co} {lv pv : Value} {b0 : Nat} {s : List (List Int) × List Int} (f : Fr) (qb : Option Addr) (bs : List Int) (bcap : Nat) (w : World) (h : RCV w0 X K q cap l N S c o lv pv b0 s w) (hs : PkS w0 q l) (hN : 0 ≤ N ∧ N < 4611686018427387904) (hl : l.length ≤ 140737488355328) (hp : InP S o.mfn 4 2) (hf : (pokes (dueAt l N) S)[o.mfn.toNat]? = some f) (hb : Byt w0 qb bs bcap) (n : Nat) (hn : (n : Int) = min (bs.length : Int) (roomR o.im (word2 ((f.bytes.drop 4).take 2)))) :
    Calls Tryd.prog 50 #[.pointer (some ⟨c, 0, none⟩), .pointer (some ⟨X, 0, none⟩), .slice qb bs.length bcap] w fun e w' => e = .returned (.tuple #[.int .i64 n, .int .i64 0]) ∧ RCV w0 X K q cap l (N + 1) (wrR (feedGo (pokes (dueAt l N) S) o (bs.take n)).1 o.mfn 6 (twoB (feedGo (pokes (dueAt l N) S) o (bs.take n)).2.im)) c (feedGo (pokes (dueAt l N) S) o (bs.take n)).2 lv pv b0 s w' ∧ Mod (Q4 K X c lv pv) w w' := by
  have c0 : w.cell? ⟨c, 0, none⟩ = some (.int .i64 o.mfn) := h.rc.at_ 0
  have HC := Lib.hid h
  have HWD := Lib.hid (rvword_ok o.mfn 4 f w0 w hs h.mod h.hK h.r h.x hN hl hp hf)
  obtain ⟨ix, hix⟩ : ∃ ix, ix = word2 ((f.bytes.drop 4).take 2) := ⟨_, rfl⟩
  rw [show ((4 : Int).toNat) = 4 from rfl, ← hix] at HWD
  rw [← hix] at hn
  generalize pokes (dueAt l N) S = S1 at HWD ⊢
  have him := h.ok.i
  obtain ⟨dd, hdd⟩ : ∃ dd, dd = (o.im - ix) % 65536 := ⟨_, rfl⟩
  have hdw : IntKind.u16.wrap (o.im - ix) = dd := by rw [hdd]; rfl
  have hdr : 0 ≤ dd ∧ dd ≤ 65535 := by omega
  unfold roomR at hn
  rw [← hdd] at hn
  have HBY := Lib.hid hb
  have hbl := hb.len
  have hfit := hb.fit
  clear h hp hf hix hdd hb hs
  go_enter Tryd.func50, Tryd.ntmps50
  go_wp2_with fail
  refine HWD.out.mono ?_
  rintro e w2 ⟨rfl, ho⟩
  obtain ⟨hc2, hm2⟩ := HC.out.rvout ho
  have HC2 := Lib.hid hc2
  have HM2 := Lib.hid hm2
  have c22 : w2.cell? ⟨c, 2, none⟩ = some (.int .u16 o.im) := hc2.rc.at_ 2
  clear hc2 hm2 ho c0 HWD
  go_upto_if 33 with (fail)
  go_cut [11] from 33 to 38 (fun v2 wx => v2 = .int .i64 n ∧ wx = w2)
  case first =>
    by_cases h64 : dd ≤ 64
    · have d1 : decide (dd ≤ 64) = true := decide_eq_true h64
      have k1 : IntKind.i64.wrap (64 - dd) = 64 - dd := IntWalk.i64_in _ (by omega)
      have hn2 : (n : Int) = min (bs.length : Int) (64 - dd) := by omega
      clear hn
      have HN2 := Lib.hid hn2
      clear hn2
      go_wp2_with fail
      all_goals go_meet
      all_goals exact ⟨by congr 1; have := HN2.out; omega, rfl⟩
    · have d1 : decide (dd ≤ 64) = false := decide_eq_false h64
      have hn2 : n = 0 := by omega
      clear hn
      have HN2 := Lib.hid hn2
      clear hn2
      go_wp2_with fail
      go_meet
      exact ⟨by rw [HN2.out]; rfl, rfl⟩
  case rest =>
  obtain ⟨rfl, hwc⟩ := hcut
  obtain rfl : w2 = wc := hwc.symm
  clear hwc
  have hnl : n ≤ bs.length ∧ n ≤ 64 := by omega
  clear hn hdw c22
  go_wp2_with fail
  go_loopw [12] (fun v wx => ∃ i : Nat, v = .int .i64 i ∧ i ≤ n ∧ RCV w0 X K q cap l (N + 1) (feedGo S1 o (bs.take i)).1 c (feedGo S1 o (bs.take i)).2 lv pv b0 s wx ∧ Mod (Q4 K X c lv pv) w wx) (fun v _ => n - (intOf v).toNat)
  case atStart => exact ⟨0, rfl, by omega, HC2.out, HM2.out⟩
  case round =>
    clear HC2 HM2
    obtain ⟨i, rfl, hi, hcw, hmw⟩ := hrel
    have hmf := feedGo_mfn S1 o (bs.take i)
    have him2 := feedGo_im S1 o (bs.take i) him
    by_cases hlt : i < n
    · have hlt' : (i : Int) < n := by omega
      obtain ⟨bq, qo, rfl, hbq, hbc⟩ := HBY.out.at_ (by omega)
      obtain ⟨x, hx⟩ : ∃ x, bs[i]? = some x := ⟨_, List.getElem?_eq_getElem (by omega)⟩
      have hxr := HBY.out.range x (List.mem_of_getElem? hx)
      have hsn := feedGo_snoc S1 o (bs.take i) x
      rw [show bs.take i ++ [x] = bs.take (i + 1) by rw [List.take_add_one, hx]; rfl] at hsn
      have HSN := Lib.hid hsn
      have HWR : Hid (∀ w' cp, Mod No wr w' → 1 ≤ cp → Calls Tryd.prog 51 #[.pointer (some ⟨K.R, 0, none⟩), .int .i64 o.mfn, .int .i64 (160 + (feedGo S1 o (bs.take i)).2.im % 64), .slice (some ⟨bq, qo + i, none⟩) 1 cp] w' fun e w2 => (∃ v, e = .returned v) ∧ RCV w0 X K q cap l (N + 1) (wrR (feedGo S1 o (bs.take i)).1 o.mfn (160 + (feedGo S1 o (bs.take i)).2.im % 64) [x]) c (feedGo S1 o (bs.take i)).2 lv pv b0 s w2 ∧ Mod (Q4 K X c lv pv) w' w2) := fun w' cp hm hcp => by
        have hd := hcw.no hm
        refine (rwrite16 o.mfn (160 + (feedGo S1 o (bs.take i)).2.im % 64) (some ⟨bq, qo + i, none⟩) cp [x] w' hd.r (fun y hy => by rw [List.mem_singleton.1 hy]; exact hxr) (fun _ => ⟨bq, qo + i, rfl, fun e => ?_, hcp, fun j y hj => ?_⟩)).mono ?_
        · have := hd.hK bq (RfK.inn_has e); omega
        · cases j with
          | zero =>
            obtain rfl : x = y := by simpa using hj
            exact (World.cell?_of_block (w := w0) (hd.mod.block bq hbq (fun q => q))).trans (hbc i x hx)
          | succ j => simp at hj
        · rintro e w2 ⟨rfl, hm2, hr2⟩
          exact ⟨⟨_, rfl⟩, (hd.wrote hm2 hr2).1, (hd.wrote hm2 hr2).2⟩
      have HMF := Lib.hid hmf
      have HCW := Lib.hid hcw
      have HMW := Lib.hid hmw
      have HI2 := Lib.hid him2
      obtain ⟨im2, him3⟩ : ∃ im2, im2 = (feedGo S1 o (bs.take i)).2.im := ⟨_, rfl⟩
      have him4 : 0 ≤ im2 ∧ im2 ≤ 65535 := by omega
      obtain ⟨m, hm⟩ : ∃ m, m = im2 % 64 := ⟨_, rfl⟩
      have hmr : 0 ≤ m ∧ m < 64 := by omega
      have z1 : im2.tmod 64 = m := by rw [hm, Int.tmod_eq_emod_of_nonneg him4.1]
      rw [← him3, ← hm] at HWR
      have z4 : IntKind.i64.wrap m = m := IntWalk.i64_in _ (by omega)
      have z5 : IntKind.u16.wrap m = m := IntWalk.u16_in _ (by omega)
      have z6 : IntKind.i64.wrap (160 + m) = 160 + m := IntWalk.i64_in _ (by omega)
      have hS4 : (fun w' : World => w'.cell? ⟨X, 0, none⟩ = some (.pointer (some ⟨K.R, 0, none⟩)) ∧ w'.cell? ⟨c, 0, none⟩ = some (.int .i64 o.mfn) ∧ w'.cell? ⟨c, 2, none⟩ = some (.int .u16 im2)) wr := ⟨hcw.x.c.1, by have := hcw.rc.at_ 0; rw [← hmf.1]; exact this, by rw [him3]; exact hcw.rc.at_ 2⟩
      have h1i : IntKind.i64.wrap ((i : Int) + 1) = (i : Int) + 1 := IntWalk.i64_in _ (by omega)
      have t1 : (0 : Int) ≤ (i : Int) + 1 := by omega
      have t2 : ((i : Int) + 1).toNat = i + 1 := by omega
      have t3 : i ≤ i + 1 := by omega
      have t4 : i + 1 - i = 1 := by omega
      have t6 : bcap ≠ i := by omega
      have t7 : (i : Int) ≤ (i : Int) + 1 := by omega
      have hci : i + 1 ≤ bcap := by omega
      have hci2 : (i : Int) + 1 ≤ (bcap : Int) := by omega
      have HIM3 := Lib.hid him3
      have HMM := Lib.hid hm
      clear hmf hcw hmw him2 hx hbc hsn him3 hm
      go_upto_region 11 with (fail)
      go_region_held3 (fun w' : World => w'.cell? ⟨X, 0, none⟩ = some (.pointer (some ⟨K.R, 0, none⟩)) ∧ w'.cell? ⟨c, 0, none⟩ = some (.int .i64 o.mfn) ∧ w'.cell? ⟨c, 2, none⟩ = some (.int .u16 im2)) (first | exact hS4 | assumption) ((go_at_call 51; refine (HWR.out _ _ (Mod.refl No wr).drew (by omega)).mono ?_; rintro e w6 ⟨⟨v6, rfl⟩, hc6, hm6⟩; have hS6 : (fun w' : World => w'.cell? ⟨X, 0, none⟩ = some (.pointer (some ⟨K.R, 0, none⟩)) ∧ w'.cell? ⟨c, 0, none⟩ = some (.int .i64 o.mfn) ∧ w'.cell? ⟨c, 2, none⟩ = some (.int .u16 im2)) w6 := ⟨hc6.x.c.1, (by have := hc6.rc.at_ 0; rw [← HMF.out.1]; exact this), (by rw [HIM3.out]; exact hc6.rc.at_ 2)⟩; have HC6 := Lib.hid hc6; have HM6 : Hid (Mod (Q4 K X c lv pv) w w6) := (HMW.out.trans ((Mod.of_no (Mod.refl No wr).drew).trans hm6)); clear hc6 hm6))
      have c26 : w6.cell? ⟨c, 2, none⟩ = some (.int .u16 im2) := by rw [HIM3.out]; exact HC6.out.rc.at_ 2
      have f26 := HC6.out.rc.free 2
      have hyw : IntKind.u16.wrap (im2 + 1) = (im2 + 1) % 65536 := rfl
      obtain ⟨hc7, hm7⟩ := HC6.out.set 2 (.int .u16 ((im2 + 1) % 65536)) (HC6.out.rc.setI ((im2 + 1) % 65536)) ⟨HC6.out.ok.o, by simp only; omega⟩
      have hc8 : RCV w0 X K q cap l (N + 1) (feedGo S1 o (bs.take (i + 1))).1 c (feedGo S1 o (bs.take (i + 1))).2 lv pv b0 s (w6.setCell ⟨c, 2, none⟩ (.int .u16 ((im2 + 1) % 65536))) := by
        rw [HMF.out.1] at hc7
        rw [HSN.out, HMF.out.1]
        simp only
        rw [← HIM3.out, ← HMM.out]
        exact hc7
      have HC8 := Lib.hid hc8
      have HM8 := Lib.hid (HM6.out.trans hm7)
      clear hc7 hc8 hm7 hS4 hS6
      go_wp2_with fail
      go_roundw
      case rel => exact ⟨i + 1, by go_num, by omega, HC8.out, HM8.out⟩
      case measure => simp [intOf]; omega
    · obtain rfl : i = n := by omega
      have hni : ¬ (i : Int) < (i : Int) := by omega
      obtain ⟨im2, him3⟩ : ∃ im2, im2 = (feedGo S1 o (bs.take i)).2.im := ⟨_, rfl⟩
      have him4 : 0 ≤ im2 ∧ im2 ≤ 65535 := by omega
      have HWR : Hid (∀ w' g, Mod No wr w' → w'.heap[g]? = some (.cells ((twoB im2).map (Value.int .u8)).toArray 5 (0, 0)) → wr.heap.size ≤ g → Calls Tryd.prog 51 #[.pointer (some ⟨K.R, 0, none⟩), .int .i64 o.mfn, .int .i64 6, .slice (some ⟨g, 0, none⟩) 2 2] w' fun e w2 => (∃ v, e = .returned v) ∧ RCV w0 X K q cap l (N + 1) (wrR (feedGo S1 o (bs.take i)).1 o.mfn 6 (twoB im2)) c (feedGo S1 o (bs.take i)).2 lv pv b0 s w2 ∧ Mod (Q4 K X c lv pv) wr w2) := fun w' g hm hrow hg => by
        have hd := hcw.no hm
        refine (rwrite16 o.mfn 6 (some ⟨g, 0, none⟩) 2 (twoB im2) w' hd.r (twoB_range him4) (fun _ => ⟨g, 0, rfl, fun e => ?_, by simp [twoB], fun j x hj => ?_⟩)).mono ?_
        · have := hcw.top.2 g (RfK.inn_has e); omega
        · rw [Nat.zero_add, row_cell hrow, List.getElem?_map, hj]; rfl
        · rintro e w2 ⟨rfl, hm2, hr2⟩
          exact ⟨⟨_, rfl⟩, (hd.wrote hm2 hr2).1, (Mod.of_no hm).trans (hd.wrote hm2 hr2).2⟩
      have HMF := Lib.hid hmf
      have HCW := Lib.hid hcw
      have HMW := Lib.hid hmw
      have hS4 : (fun w' : World => w'.cell? ⟨X, 0, none⟩ = some (.pointer (some ⟨K.R, 0, none⟩)) ∧ w'.cell? ⟨c, 0, none⟩ = some (.int .i64 o.mfn) ∧ w'.cell? ⟨c, 2, none⟩ = some (.int .u16 im2)) wr := ⟨hcw.x.c.1, by have := hcw.rc.at_ 0; rw [← hmf.1]; exact this, by rw [him3]; exact hcw.rc.at_ 2⟩
      have HIM3 := Lib.hid him3
      clear hmf hcw hmw him2 him3
      go_upto_region 13 with (fail)
      go_region_held3 (fun w' : World => w'.cell? ⟨X, 0, none⟩ = some (.pointer (some ⟨K.R, 0, none⟩)) ∧ w'.cell? ⟨c, 0, none⟩ = some (.int .i64 o.mfn) ∧ w'.cell? ⟨c, 2, none⟩ = some (.int .u16 im2)) (first | exact hS4 | assumption) (first
        | (go_at_call 65; refine (rtwo16 _ _ him4).mono ?_; rintro e w7 ⟨rfl, hm7, hs7, hrow7⟩; have HM7 : Hid (Mod No wr w7) := (Mod.refl No wr).drew.trans hm7; have hS5 : (fun w' : World => w'.cell? ⟨X, 0, none⟩ = some (.pointer (some ⟨K.R, 0, none⟩)) ∧ w'.cell? ⟨c, 0, none⟩ = some (.int .i64 o.mfn) ∧ w'.cell? ⟨c, 2, none⟩ = some (.int .u16 im2)) w7 := ⟨(HCW.out.no HM7.out).x.c.1, (by have := (HCW.out.no HM7.out).rc.at_ 0; rw [← HMF.out.1]; exact this), (by rw [HIM3.out]; exact (HCW.out.no HM7.out).rc.at_ 2)⟩; have HROW7 := Lib.hid hrow7; clear hm7 hs7 hrow7)
        | (go_at_call 51; refine (HWR.out w7 _ HM7.out HROW7.out (Nat.le_refl _)).mono ?_; rintro e w8 ⟨⟨v8, rfl⟩, hd8, hm8⟩; have hS6 : (fun w' : World => w'.cell? ⟨X, 0, none⟩ = some (.pointer (some ⟨K.R, 0, none⟩)) ∧ w'.cell? ⟨c, 0, none⟩ = some (.int .i64 o.mfn) ∧ w'.cell? ⟨c, 2, none⟩ = some (.int .u16 im2)) w8 := ⟨hd8.x.c.1, (by have := hd8.rc.at_ 0; rw [← HMF.out.1]; exact this), (by rw [HIM3.out]; exact hd8.rc.at_ 2)⟩; have HD8 := Lib.hid hd8; have HM8 := Lib.hid hm8; clear hd8 hm8))
      go_wp2
      go_ret2
      have h8 := HD8.out
      rw [HIM3.out] at h8
      exact ⟨rfl, h8, HMW.out.trans HM8.out⟩

end Go.Proofs.YtmdeljacbekbpaaDoor
