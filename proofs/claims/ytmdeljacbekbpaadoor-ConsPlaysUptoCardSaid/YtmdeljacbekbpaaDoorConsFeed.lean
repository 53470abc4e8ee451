/- cons.Console.Feed. -/
import Derived.Test.YtmdeljacbekbpaaDoorConsTell2
import Derived.RegionTactic
import Derived.IntWalk
import Derived.Deep.DeepCutAuto
import Derived.Deep.CutRange
import Derived.ChangeAlike
namespace Go.Proofs.YtmdeljacbekbpaaDoor
open Go.RowKit
set_option maxRecDepth 100000

/-- The bytes go in, one by one. -/
def feedGo (S : List Fr) (c : Co) : List Int → List Fr × Co
  | [] => (S, c)
  | x :: xs => feedGo (wrR S c.mfn (160 + c.im % 64) [x]) { c with im := (c.im + 1) % 65536 } xs
theorem feedGo_snoc (S : List Fr) (c : Co) : ∀ (xs : List Int) (x : Int), feedGo S c (xs ++ [x]) = (wrR (feedGo S c xs).1 (feedGo S c xs).2.mfn (160 + (feedGo S c xs).2.im % 64) [x], { (feedGo S c xs).2 with im := ((feedGo S c xs).2.im + 1) % 65536 })
  | [], x => rfl
  | y :: xs, x => by
    rw [List.cons_append, feedGo, feedGo_snoc _ _ xs x]
    rfl
theorem feedGo_mfn (S : List Fr) (c : Co) : ∀ (xs : List Int), (feedGo S c xs).2.mfn = c.mfn ∧ (feedGo S c xs).2.om = c.om
  | [] => ⟨rfl, rfl⟩
  | y :: xs => by rw [feedGo]; exact feedGo_mfn _ _ xs
theorem feedGo_im (S : List Fr) (c : Co) : ∀ (xs : List Int), 0 ≤ c.im ∧ c.im ≤ 65535 → (feedGo S c xs).2.im = (c.im + xs.length) % 65536
  | [], h => by show c.im = _; simp only [List.length_nil]; omega
  | y :: xs, h => by
    rw [feedGo, feedGo_im _ _ xs (by simp only; omega)]
    simp only [List.length_cons]
    omega
/-- How many bytes there is room for. -/
def roomR (im index : Int) : Int := max 0 (64 - (im - index) % 65536)

theorem unmade_made {base top B : Nat} {k : ViK} {N : Int} {l : List Pk} (w : World) (h : ViM w base top k B N l) : Calls Tryd.prog 39 #[.pointer (some ⟨k.V, 0, none⟩)] w fun e w' => e = .returned (.pointer (some ⟨B, 0, none⟩)) ∧ w = w' := vmachine_made k.V B w h.c0.1

set_option maxHeartbeats 4000000 in
/-- Feed, where the page is none. -/
theorem feed_bad {B F b base top : Nat} {vk : ViK} {N : Int} {l : List Pk} {S : List Fr} {c : Co} {lv pv : Value} (q : Option Addr) (n cap : Nat) (w : World) (h : CW B F b base top vk N l S c lv pv w) (hN : 0 ≤ N ∧ N < 4611686018427387904) (hl : l.length ≤ 140737488355328) (hp : ¬ InP S c.mfn 4 2) :
    Calls Tryd.prog 15 #[.pointer (some ⟨b, 0, none⟩), .pointer (some ⟨vk.V, 0, none⟩), .slice q n cap] w fun e w' => e = .returned (.tuple #[.int .i64 0, .int .i64 1]) ∧ CW B F b base top vk (N + 1) l (pokes (dueAt l N) S) c lv pv w' ∧ Mod (P3 F vk b) w w' := by
  have c0 : w.cell? ⟨b, 0, none⟩ = some (.bool true) := h.co.at_ 0
  have HN := Lib.hid (cnone_yes b w c0)
  have HU := Lib.hid (unmade_made w h.v)
  have HC := Lib.hid h
  have HWD : Hid (∀ w', Mod No w w' → Calls Tryd.prog 40 #[.pointer (some ⟨vk.V, 0, none⟩), .int .i64 c.mfn, .int .i64 4] w' _) := fun w' hm => vword_bad c.mfn 4 w' (h.no hm).p (h.no hm).v h.sep.1 hN hl hp
  have hS1 : (fun w' : World => w'.cell? ⟨b, 1, none⟩ = some (.int .i64 c.mfn) ∧ w'.cell? ⟨b, 9, none⟩ = some (.int .i64 4)) w := ⟨h.co.at_ 1, h.co.at_ 9⟩
  clear h hp c0
  go_enter Tryd.func15, Tryd.ntmps15
  go_upto_region 4 with (first
    | (go_at_call 38; refine HN.out.mono ?_; rintro e w' ⟨rfl, rfl⟩)
    | (go_at_call 39; refine HU.out.mono ?_; rintro e w' ⟨rfl, rfl⟩))
  go_region_held3 (fun w' : World => w'.cell? ⟨b, 1, none⟩ = some (.int .i64 c.mfn) ∧ w'.cell? ⟨b, 9, none⟩ = some (.int .i64 4)) (first | exact hS1 | assumption) ((go_at_call 40; refine (HWD.out _ (Mod.refl No w).drew).mono ?_; rintro e w2 ⟨rfl, ho⟩; obtain ⟨hc2, hm2⟩ := (HC.out.no (Mod.refl No w).drew).vout ho; have hS2 : (fun w' : World => w'.cell? ⟨b, 1, none⟩ = some (.int .i64 c.mfn) ∧ w'.cell? ⟨b, 9, none⟩ = some (.int .i64 4)) w2 := ⟨hc2.co.at_ 1, hc2.co.at_ 9⟩; have HC2 := Lib.hid hc2; have HM2 := Lib.hid ((Mod.of_no (Mod.refl No w).drew).trans hm2); clear hc2 hm2 ho))
  go_wp2
  go_ret2
  exact ⟨rfl, HC2.out, HM2.out⟩

set_option maxHeartbeats 8000000 in
/-- Feed. -/
theorem feed_ok {B F b base top : Nat} {vk : ViK} {N : Int} {l : List Pk} {S : List Fr} {c : Co} {lv pv : Value} (f : Fr) (q : Option Addr) (bs : List Int) (cap : Nat) (w : World) (h : CW B F b base top vk N l S c lv pv w) (hN : 0 ≤ N ∧ N < 4611686018427387904) (hl : l.length ≤ 140737488355328) (hp : InP S c.mfn 4 2) (hf : (pokes (dueAt l N) S)[c.mfn.toNat]? = some f) (hb : Byt w q bs cap) (hq : 0 < bs.length → ∀ bq off, q = some ⟨bq, off, none⟩ → bq ≠ F ∧ bq ≠ vk.V ∧ bq ≠ b) (n : Nat) (hn : (n : Int) = min (bs.length : Int) (roomR c.im (word2 ((f.bytes.drop 4).take 2)))) :
    Calls Tryd.prog 15 #[.pointer (some ⟨b, 0, none⟩), .pointer (some ⟨vk.V, 0, none⟩), .slice q bs.length cap] w fun e w' => e = .returned (.tuple #[.int .i64 n, .int .i64 0]) ∧ CW B F b base top vk (N + 1) l (wrR (feedGo (pokes (dueAt l N) S) c (bs.take n)).1 c.mfn 6 (twoB (feedGo (pokes (dueAt l N) S) c (bs.take n)).2.im)) (feedGo (pokes (dueAt l N) S) c (bs.take n)).2 lv pv w' ∧ Mod (P3 F vk b) w w' := by
  have c0 : w.cell? ⟨b, 0, none⟩ = some (.bool true) := h.co.at_ 0
  have HN := Lib.hid (cnone_yes b w c0)
  have HU := Lib.hid (unmade_made w h.v)
  have HC := Lib.hid h
  have HWD : Hid (∀ w', Mod No w w' → Calls Tryd.prog 40 #[.pointer (some ⟨vk.V, 0, none⟩), .int .i64 c.mfn, .int .i64 4] w' _) := fun w' hm => vword_ok c.mfn 4 f w' (h.no hm).p (h.no hm).v h.sep.1 hN hl hp hf
  obtain ⟨ix, hix⟩ : ∃ ix, ix = word2 ((f.bytes.drop 4).take 2) := ⟨_, rfl⟩
  rw [show ((4 : Int).toNat) = 4 from rfl, ← hix] at HWD
  rw [← hix] at hn
  have hS1 : (fun w' : World => w'.cell? ⟨b, 1, none⟩ = some (.int .i64 c.mfn) ∧ w'.cell? ⟨b, 9, none⟩ = some (.int .i64 4)) w := ⟨h.co.at_ 1, h.co.at_ 9⟩
  generalize pokes (dueAt l N) S = S1 at HWD ⊢
  have HBY := Lib.hid hb
  have hbl := hb.len
  have hfit := hb.fit
  have him := h.ok.i
  obtain ⟨dd, hdd⟩ : ∃ dd, dd = (c.im - ix) % 65536 := ⟨_, rfl⟩
  have hdw : IntKind.u16.wrap (c.im - ix) = dd := by rw [hdd]; rfl
  have hdr : 0 ≤ dd ∧ dd ≤ 65535 := by omega
  unfold roomR at hn
  rw [← hdd] at hn
  clear h hp c0 hf hix hb hdd
  go_enter Tryd.func15, Tryd.ntmps15
  go_upto_region 4 with (first
    | (go_at_call 38; refine HN.out.mono ?_; rintro e w' ⟨rfl, rfl⟩)
    | (go_at_call 39; refine HU.out.mono ?_; rintro e w' ⟨rfl, rfl⟩))
  go_region_held3 (fun w' : World => w'.cell? ⟨b, 1, none⟩ = some (.int .i64 c.mfn) ∧ w'.cell? ⟨b, 9, none⟩ = some (.int .i64 4)) (first | exact hS1 | assumption) ((go_at_call 40; refine (HWD.out _ (Mod.refl No w).drew).mono ?_; rintro e w2 ⟨rfl, ho⟩; obtain ⟨hc2, hm2⟩ := (HC.out.no (Mod.refl No w).drew).vout ho; have hS2 : (fun w' : World => w'.cell? ⟨b, 1, none⟩ = some (.int .i64 c.mfn) ∧ w'.cell? ⟨b, 9, none⟩ = some (.int .i64 4)) w2 := ⟨hc2.co.at_ 1, hc2.co.at_ 9⟩; have HC2 := Lib.hid hc2; have HM2 := Lib.hid ((Mod.of_no (Mod.refl No w).drew).trans hm2); clear hc2 hm2 ho))
  have c8 : w2.cell? ⟨b, 8, none⟩ = some (.int .i64 64) := HC2.out.co.at_ 8
  have c11 : w2.cell? ⟨b, 11, none⟩ = some (.int .u16 c.im) := HC2.out.co.at_ 11
  clear hS1 hS2 HN HU HWD
  go_upto_region 7 with (fail)
  go_quiet (fail)
  have HM3 := Lib.hid (HM2.out.trans (Mod.of_no ((Mod.refl No w2).drewN nq)))
  have HC3 := Lib.hid (HC2.out.no ((Mod.refl No w2).drewN nq))
  clear c8 c11 HC2 HM2 HC
  generalize w2.drewN nq = w3 at HM3 HC3 ⊢
  obtain ⟨rm, hrm⟩ : ∃ rm, rm = (if dd < 64 then 64 - dd else 0) := ⟨_, rfl⟩
  have hnr : (n : Int) = min (bs.length : Int) rm := by
    rw [hn, hrm]
    congr 1
    split <;> omega
  have hrr : 0 ≤ rm ∧ rm ≤ 64 := by rw [hrm]; split <;> omega
  rw [← hrm]
  have hnl : n ≤ bs.length ∧ n ≤ 64 := by omega
  clear hrm hn hdw
  go_upto_region 8 with (fail)
  go_cut [2] from 55 to 60 (fun v2 wx => v2 = .slice q n cap ∧ wx = w3)
  case first =>
    go_wp2_with fail
    all_goals go_meet
    all_goals exact ⟨by congr 1; omega, rfl⟩
  case rest =>
  obtain ⟨rfl, hwc⟩ := hcut
  obtain rfl : w3 = wc := hwc.symm
  go_wp2_with fail
  have HQ := Lib.hid hq
  clear hq hwc
  go_loopw [63] (fun v wx => ∃ i : Nat, v = .int .i64 i ∧ i ≤ n ∧ CW B F b base top vk (N + 1) l (feedGo S1 c (bs.take i)).1 (feedGo S1 c (bs.take i)).2 lv pv wx ∧ Mod (P3 F vk b) w wx) (fun v _ => n - (intOf v).toNat)
  case atStart => exact ⟨0, rfl, by omega, HC3.out, HM3.out⟩
  case round =>
    clear HC3 HM3
    obtain ⟨i, rfl, hi, hcw, hmw⟩ := hrel
    have hmf := feedGo_mfn S1 c (bs.take i)
    have him2 := feedGo_im S1 c (bs.take i) him
    by_cases hlt : i < n
    · have hlt' : (i : Int) < n := by omega
      obtain ⟨bq, qo, rfl, hbq, hbc⟩ := HBY.out.at_ (by omega)
      obtain ⟨x, hx⟩ : ∃ x, bs[i]? = some x := ⟨_, List.getElem?_eq_getElem (by omega)⟩
      have hxr := HBY.out.range x (List.mem_of_getElem? hx)
      have hqn := HQ.out (by omega) bq qo rfl
      have hce : ∀ w', Mod No wr w' → w'.cell? ⟨bq, qo + i, none⟩ = some (.int .u8 x) := fun w' hm => by
        have h1 := (World.cell?_of_block (w := w) (hmw.block bq hbq (fun q => q.elim hqn.1 (fun q => q.elim hqn.2.1 hqn.2.2)))).trans (hbc i x hx)
        exact (World.cell?_of_block (w := wr) (hm.block bq (Nat.lt_of_lt_of_le hbq hmw.size) (fun q => q))).trans h1
      have hsn := feedGo_snoc S1 c (bs.take i) x
      rw [show bs.take i ++ [x] = bs.take (i + 1) by rw [List.take_add_one, hx]; rfl] at hsn
      have HCE := Lib.hid hce
      have HSN := Lib.hid hsn
      clear hce hsn hbc hx
      have HPA : Hid (∀ w', Mod No wr w' → Calls Tryd.prog 42 #[.pointer (some ⟨b, 7, none⟩)] w' fun e w2 => e = .returned (.int .i64 (160 + (feedGo S1 c (bs.take i)).2.im % 64)) ∧ Mod No w' w2) := fun w' hm => pat_in w' (hcw.co.no hm) hcw.ok
      have HWR : Hid (∀ w' cp, Mod No wr w' → Calls Tryd.prog 41 #[.pointer (some ⟨vk.V, 0, none⟩), .int .i64 c.mfn, .int .i64 (160 + (feedGo S1 c (bs.take i)).2.im % 64), .slice (some ⟨bq, qo + i, none⟩) 1 cp] w' fun e w2 => (∃ v, e = .returned v) ∧ CW B F b base top vk (N + 1) l (wrR (feedGo S1 c (bs.take i)).1 c.mfn (160 + (feedGo S1 c (bs.take i)).2.im % 64) [x]) (feedGo S1 c (bs.take i)).2 lv pv w2 ∧ Mod (One F) w' w2) := fun w' cp hm => by
        refine (vwrite_cw c.mfn (160 + (feedGo S1 c (bs.take i)).2.im % 64) (some ⟨bq, qo + i, none⟩) cp [x] w' (hcw.no hm) ?_).mono ?_
        · refine ⟨fun y hy => by rw [List.mem_singleton.1 hy]; exact hxr, fun _ => ⟨_, rfl, fun j y hj => ?_⟩⟩
          cases j with
          | zero =>
            obtain rfl : x = y := by simpa using hj
            exact HCE.out w' hm
          | succ j => simp at hj
        · rintro e w2 ⟨rfl, hc, hm2⟩
          exact ⟨⟨_, rfl⟩, hc, hm2⟩
      have HMF := Lib.hid hmf
      have HCW := Lib.hid hcw
      have HMW := Lib.hid hmw
      have HI2 := Lib.hid him2
      clear him2
      have hS4 : (fun w' : World => w'.cell? ⟨b, 1, none⟩ = some (.int .i64 c.mfn)) wr := by have := hcw.co.at_ 1; rw [← hmf.1]; exact this
      have h1i : IntKind.i64.wrap ((i : Int) + 1) = (i : Int) + 1 := IntWalk.i64_in _ (by omega)
      have t1 : (0 : Int) ≤ (i : Int) + 1 := by omega
      have t2 : ((i : Int) + 1).toNat = i + 1 := by omega
      have t3 : i ≤ i + 1 := by omega
      have t4 : i + 1 - i = 1 := by omega
      have t6 : cap ≠ i := by omega
      have t7 : (i : Int) ≤ (i : Int) + 1 := by omega
      have hci : i + 1 ≤ cap := by omega
      have hci2 : (i : Int) + 1 ≤ (cap : Int) := by omega
      clear hmf hcw hmw
      go_upto_region 12 with (fail)
      go_region_held3 (fun w' : World => w'.cell? ⟨b, 1, none⟩ = some (.int .i64 c.mfn)) (first | exact hS4 | assumption) (first
        | (go_at_call 42; refine (HPA.out _ (Mod.refl No wr).drew).mono ?_; rintro e w5 ⟨rfl, hm5⟩; have hS5 : (fun w' : World => w'.cell? ⟨b, 1, none⟩ = some (.int .i64 c.mfn)) w5 := (by have := (HCW.out.no ((Mod.refl No wr).drew.trans hm5)).co.at_ 1; rw [← HMF.out.1]; exact this); have HM5 := Lib.hid ((Mod.refl No wr).drew.trans hm5); clear hm5)
        | (go_at_call 41; refine (HWR.out _ _ HM5.out).mono ?_; rintro e w6 ⟨⟨v6, rfl⟩, hc6, hm6⟩; have hS6 : (fun w' : World => w'.cell? ⟨b, 1, none⟩ = some (.int .i64 c.mfn)) w6 := (by have := hc6.co.at_ 1; rw [← HMF.out.1]; exact this); have HC6 := Lib.hid hc6; have HM6 := Lib.hid (HMW.out.trans ((Mod.of_no HM5.out).trans (hm6.mono (fun i _ (q : i = F) => .inl q)))); clear hc6 hm6))
      obtain ⟨im2, him3⟩ : ∃ im2, im2 = (feedGo S1 c (bs.take i)).2.im := ⟨_, rfl⟩
      have c11 : w6.cell? ⟨b, 11, none⟩ = some (.int .u16 im2) := by rw [him3]; exact HC6.out.co.at_ 11
      have f11 := HC6.out.co.free 11
      have hyw : IntKind.u16.wrap (im2 + 1) = (im2 + 1) % 65536 := rfl
      obtain ⟨hc7, hm7⟩ := HC6.out.set 11 (.int .u16 ((im2 + 1) % 65536)) (HC6.out.co.setI ((im2 + 1) % 65536)) ⟨HC6.out.ok.o, by simp only; omega⟩
      have hc8 : CW B F b base top vk (N + 1) l (feedGo S1 c (bs.take (i + 1))).1 (feedGo S1 c (bs.take (i + 1))).2 lv pv (w6.setCell ⟨b, 11, none⟩ (.int .u16 ((im2 + 1) % 65536))) := by
        subst him3
        rw [HSN.out]
        rw [HMF.out.1] at hc7 ⊢
        exact hc7
      have HC8 := Lib.hid hc8
      have HM8 := Lib.hid (HM6.out.trans hm7)
      clear hc7 hc8 hm7 him3 hS4 hS5 hS6
      go_wp2_with fail
      go_roundw
      case rel => exact ⟨i + 1, by go_num, by omega, HC8.out, HM8.out⟩
      case measure => simp [intOf]; omega
    · obtain rfl : i = n := by omega
      have hni : ¬ (i : Int) < (i : Int) := by omega
      have d1 : decide ((i : Int) < (i : Int)) = false := decide_eq_false hni
      have HTL : Hid (∀ w', Mod No wr w' → Calls Tryd.prog 43 #[.pointer (some ⟨b, 7, none⟩), .pointer (some ⟨vk.V, 0, none⟩), .int .i64 c.mfn] w' fun e w2 => e = .returned (.tuple #[]) ∧ CW B F b base top vk (N + 1) l (wrR (feedGo S1 c (bs.take i)).1 c.mfn 6 (twoB (feedGo S1 c (bs.take i)).2.im)) (feedGo S1 c (bs.take i)).2 lv pv w2 ∧ Mod (One F) w' w2) := fun w' hm => by
        have htl := tell_in w' (hcw.no hm)
        rw [hmf.1] at htl
        exact htl
      have HMW := Lib.hid hmw
      have HMF := Lib.hid hmf
      have hS4 : (fun w' : World => w'.cell? ⟨b, 1, none⟩ = some (.int .i64 c.mfn)) wr := by have := hcw.co.at_ 1; rw [← hmf.1]; exact this
      clear hcw hmw hmf him2
      go_upto_region 15 with (fail)
      go_region_held3 (fun w' : World => w'.cell? ⟨b, 1, none⟩ = some (.int .i64 c.mfn)) (first | exact hS4 | assumption) ((go_at_call 43; refine (HTL.out _ (Mod.refl No wr).drew).mono ?_; rintro e w5 ⟨rfl, hc5, hm5⟩; have hS5 : (fun w' : World => w'.cell? ⟨b, 1, none⟩ = some (.int .i64 c.mfn)) w5 := (by have := hc5.co.at_ 1; rw [← HMF.out.1]; exact this); have HC5 := Lib.hid hc5; have HM5 := Lib.hid (HMW.out.trans ((Mod.of_no (Mod.refl No wr).drew).trans (hm5.mono (fun i _ (q : i = F) => .inl q)))); clear hc5 hm5))
      go_wp2
      go_ret2
      exact ⟨by rw [hnr]; rfl, HC5.out, HM5.out⟩

end Go.Proofs.YtmdeljacbekbpaaDoor
