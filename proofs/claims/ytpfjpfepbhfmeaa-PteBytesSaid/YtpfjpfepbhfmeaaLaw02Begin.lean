/- tenementlaw02.begin: both machines; which frames they have depends on the list alone. -/
import Derived.Test.YtpfjpfepbhfmeaaBothG
import Derived.Test.YtpfjpfepbhfmeaaOpenStD
namespace Go.Proofs.Ytpfjpfepbhfmeaa
open Go.RowKit
set_option maxRecDepth 100000

/-- What the code's call leaves, with what it does not touch. -/
theorem RoundS.mid {w0 w wa w1 : World} {B F n i : Nat} {K : RfK} {S S' : List Fr} {v1 : Value} {e1 : Ending} (h : RoundS w0 B F n i K S w) (hw : Mod No w wa) (h1 : POut B F v1 S' wa e1 w1) : Mod No w0 w1 ∧ RfM w1 K S := by
  obtain ⟨_, m1, p1⟩ := h1
  have hR := h.two.r.keptNo hw
  have hP := h.two.p.kept hw (fun q => q) (fun q => q)
  refine ⟨h.mod.step ((Mod.of_no hw).trans m1) ?_, hR.kept m1 (fun k hk (e : k = F) => (hR.ne_phys hP).2 (e ▸ hk))⟩
  intro k hk (q : k = F)
  have := h.F; omega

theorem POut.more {B F : Nat} {S : List Fr} {v : Value} {w w1 w2 : World} {e : Ending} (h : POut B F v S w e w1) (hm : Mod No w1 w2) : POut B F v S w e w2 :=
  ⟨h.1, h.2.1.trans (Mod.of_no hm), h.2.2.kept hm (fun q => q) (fun q => q)⟩

/-- One round's four calls, in each machine. -/
def BegStep (m : Nat) (S : List Fr) (i : Int) (o : StD) (S4 : List Fr) : Prop := ∃ (x r r2 r3 r4 : Int) (S1 S2 S3 : List Fr),
  (S1.length = S.length ∧ S2.length = S1.length ∧ S3.length = S2.length ∧ S4.length = S3.length ∧ invS m S1 ∧ invS m S2 ∧ invS (m + 1) S3 ∧ invS (m + 1) S4) ∧
  ((∀ w B F, PhM w B F S → Calls Try.prog 19 #[.pointer (some ⟨B, 0, none⟩), .int .i64 (-2)] w (POut B F (.tuple #[.int .i64 x, .int .i64 r]) S1 w)) ∧
    (∀ w K R, K.R = R → RfM w K S → Calls Try.prog 69 #[.pointer (some ⟨R, 0, none⟩), .int .i64 (-2)] w (ROut K (.tuple #[.int .i64 x, .int .i64 r]) S1 w))) ∧
  ((∀ w B F, PhM w B F S1 → Calls Try.prog 72 #[.pointer (some ⟨B, 0, none⟩), .int .i64 i, .int .i64 o.owner] w (POut B F (.int .i64 r2) S2 w)) ∧
    (∀ w K R, K.R = R → RfM w K S1 → Calls Try.prog 73 #[.pointer (some ⟨R, 0, none⟩), .int .i64 i, .int .i64 o.owner] w (ROut K (.int .i64 r2) S2 w))) ∧
  ((∀ w B F, PhM w B F S2 → Calls Try.prog 74 #[.pointer (some ⟨B, 0, none⟩), .int .i64 i, .int .i64 o.owner, .int .i64 o.kind] w (POut B F (.int .i64 r3) S3 w)) ∧
    (∀ w K R, K.R = R → RfM w K S2 → Calls Try.prog 75 #[.pointer (some ⟨R, 0, none⟩), .int .i64 i, .int .i64 o.owner, .int .i64 o.kind] w (ROut K (.int .i64 r3) S3 w))) ∧
  ((∀ w B F p c, PhM w B F S3 → Src w p o.bs → Calls Try.prog 18 #[.pointer (some ⟨B, 0, none⟩), .int .i64 i, .int .i64 0, .slice p o.bs.length c] w (POut B F (.int .i64 r4) S4 w)) ∧
    (∀ w K R p c, K.R = R → RfM w K S3 → (0 < o.bs.length → ∃ b f, p = some ⟨b, f, none⟩ ∧ ¬ K.inn b ∧ o.bs.length ≤ c ∧ ∀ j x, o.bs[j]? = some x → w.cell? ⟨b, f + j, none⟩ = some (.int .u8 x)) →
      Calls Try.prog 79 #[.pointer (some ⟨R, 0, none⟩), .int .i64 i, .int .i64 0, .slice p o.bs.length c] w (ROut K (.int .i64 r4) S4 w)))

theorem begStep_ex {m : Nat} (hm : m ≤ 8) {S : List Fr} (i : Int) (o : StD) (hr : ∀ x ∈ o.bs, 0 ≤ x ∧ x ≤ 255) (hI : invS m S) : ∃ S4, S4.length = S.length ∧ invS (m + 1) S4 ∧ BegStep m S i o S4 := by
  obtain ⟨x, r, S1, l1, i1, a1, b1⟩ := both_alloc m S (-2) hI
  obtain ⟨r2, S2, l2, i2, a2, b2⟩ := both_give m S1 i o.owner i1
  obtain ⟨r3, S3, l3, i3, a3, b3⟩ := both_get m (by omega) S2 i o.owner o.kind i2
  obtain ⟨r4, S4, l4, i4, a4, b4⟩ := both_write (m + 1) S3 i 0 o.bs hr i3
  exact ⟨S4, by omega, i4, x, r, r2, r3, r4, S1, S2, S3, ⟨l1, l2, l3, l4, i1, i2, i3, i4⟩, ⟨a1, fun w K R e h => e ▸ b1 w K h⟩, ⟨a2, fun w K R e h => e ▸ b2 w K h⟩, ⟨a3, fun w K R e h => e ▸ b3 w K h⟩, ⟨a4, fun w K R p c e h => e ▸ b4 w K p c h⟩⟩

/-- The lists of frames, round after round. -/
theorem beg_run (l : List StD) (hr : ∀ o ∈ l, ∀ x ∈ o.bs, 0 ≤ x ∧ x ≤ 255) (N : Nat) : ∀ k : Nat, k ≤ l.length → k ≤ 8 → ∃ g : Nat → List Fr,
    g 0 = List.replicate N freeFr ∧ (∀ i, i ≤ k → (g i).length = N ∧ invS i (g i)) ∧ ∀ i o, i < k → l[i]? = some o → BegStep i (g i) (i : Int) o (g (i + 1))
  | 0, _, _ => ⟨fun _ => List.replicate N freeFr, rfl, fun i _ => ⟨by simp, invS_new _ _⟩, fun i o hi => absurd hi (Nat.not_lt_zero _)⟩
  | k + 1, h1, h2 => by
    obtain ⟨g, g0, gl, gs⟩ := beg_run l hr N k (by omega) (by omega)
    obtain ⟨o, ho⟩ : ∃ o, l[k]? = some o := ⟨_, List.getElem?_eq_getElem (by omega)⟩
    obtain ⟨S4, hl, hI, hst⟩ := begStep_ex (show k ≤ 8 by omega) (k : Int) o (hr o (List.mem_of_getElem? ho)) (gl k (Nat.le_refl _)).2
    refine ⟨fun j => if j ≤ k then g j else S4, by dsimp only; rw [if_pos (Nat.zero_le _)]; exact g0, fun i hi => ?_, fun i o' hi ho' => ?_⟩
    · dsimp only
      by_cases e : i ≤ k
      · rw [if_pos e]; exact gl i e
      · obtain rfl : i = k + 1 := by omega
        rw [if_neg e]; exact ⟨hl.trans (gl k (Nat.le_refl _)).1, hI⟩
    · dsimp only
      by_cases e : i < k
      · rw [if_pos (show i ≤ k by omega), if_pos (show i + 1 ≤ k by omega)]
        exact gs i o' e ho'
      · obtain rfl : i = k := by omega
        rw [if_pos (Nat.le_refl _), if_neg (show ¬ i + 1 ≤ i by omega)]
        rw [ho] at ho'
        cases ho'
        exact hst

def begN (l : List StD) : Nat := min l.length 8 + 1

set_option maxHeartbeats 16000000 in
theorem begin2_in (l : List StD) (hr : ∀ o ∈ l, ∀ x ∈ o.bs, 0 ≤ x ∧ x ≤ 255) (hlen : l.length ≤ 140737488355328) :
    ∃ S, S.length = begN l ∧ invS 8 S ∧ ∀ (w : World) (p : Option Addr) (cap : Nat), StDS w p l →
      Calls Try.prog 22 #[.slice p l.length cap] w fun e w' => ∃ B F K, e = .returned (.tuple #[.pointer (some ⟨B, 0, none⟩), .pointer (some ⟨K.R, 0, none⟩), .bool true]) ∧ RoundS w B F (begN l) 8 K S w' := by
  obtain ⟨g, g0, gl, gs⟩ := beg_run l hr (begN l) (min l.length 8) (by omega) (by omega)
  have g8 : invS 8 (g (min l.length 8)) := (gl _ (Nat.le_refl _)).2.mono (by omega)
  refine ⟨g (min l.length 8), (gl _ (Nat.le_refl _)).1, g8, fun w p cap hs => ?_⟩
  obtain ⟨N, hN⟩ : ∃ N, N = min l.length 8 := ⟨_, rfl⟩
  have hbN : begN l = N + 1 := by rw [hN]; rfl
  have hN8 : N ≤ 8 := by omega
  have hNl : N ≤ l.length := by omega
  rw [← hN] at gl gs g8 ⊢
  rw [hbN] at gl g0 ⊢
  have hmin : min (l.length : Int) 8 = (N : Int) := by omega
  have HS := Lib.hid hs
  have HG0 := Lib.hid g0
  have HGL := Lib.hid gl
  have HGS := Lib.hid gs
  have HG8 := Lib.hid g8
  have HMIN := Lib.hid hmin
  have HNM := Lib.hid hN
  clear hs g0 gl gs g8 hbN hN
  go_enter Try.func22, Try.ntmps22
  go_wp2_with fail
  all_goals
    first
      | (have e9 : (9 : Int) = (N : Int) + 1 := by have := HNM.out; omega
         rw [e9]; clear e9)
      | (have e9 : (l.length : Int) + 1 = (N : Int) + 1 := by have := HNM.out; omega
         rw [e9]; clear e9)
    have hnn : ((N + 1 : Nat) : Int) = (N : Int) + 1 := by omega
    have hnew := new_in (N + 1) w (by omega) (by omega)
    rw [hnn] at hnew
    refine hnew.mono ?_
    clear hnew
    rintro e w1 ⟨B, F, rfl, hB, hF, hm1, hP1⟩
    go_wp2_with fail
    have hnew := rnew_in (N + 1) w1 (by omega) (by omega)
    rw [hnn] at hnew
    refine hnew.mono ?_
    clear hnew
    rintro e w2 ⟨K0, rfl, hK, hm2, hR2⟩
    have hm12 := hm1.trans hm2
    have hs1 := hm1.size
    have h0 : RoundS w B F (N + 1) 0 K0 (g 0) w2 := by
      rw [HG0.out]
      exact ⟨⟨hP1.kept hm2 (fun q => q) (fun q => q), hR2, invS_new _ _⟩, by simp, hm12, hF, fun k hk => by have := hK k hk; omega⟩
    obtain ⟨R0, hR0⟩ : ∃ R0, R0 = K0.R := ⟨_, rfl⟩
    rw [← hR0]
    have HR0 := Lib.hid hR0
    have H0 := Lib.hid h0
    clear hR0 h0 hP1 hR2 hm1 hm2 hm12 hK hB hF hs1
    go_wp2_with fail
    go_loopw [10] (fun v wr => ∃ i : Nat, i ≤ N ∧ v = .int .i64 i ∧ ∃ K, RoundS w B F (N + 1) i K (g i) wr ∧ K.R = R0) (fun v _ => N - (intOf v).toNat)
    case atStart => exact ⟨0, Nat.zero_le _, rfl, K0, H0.out, HR0.out.symm⟩
    case round =>
      obtain ⟨i, hi, rfl, K, hrd, hKR⟩ := hrel
      by_cases hlt : i < N
      · have hlt' : (i : Int) < N := by omega
        have b1 : (i : Int) < l.length := by omega
        have b0 : (0 : Int) ≤ i := by omega
        obtain ⟨o, ho⟩ : ∃ o, l[i]? = some o := ⟨_, List.getElem?_eq_getElem (by omega)⟩
        obtain ⟨x, r, r2, r3, r4, S1, S2, S3, ⟨l1, l2, l3, l4, i1, i2, i3, i4⟩, ⟨A1, B1⟩, ⟨A2, B2⟩, ⟨A3, B3⟩, ⟨A4, B4⟩⟩ := HGS.out i o hlt ho
        obtain ⟨sb, so, rfl, _⟩ := HS.out.cellsAt ho
        have hat : ∀ w', Mod No w w' → Byt w' o.bq o.bs o.bc ∧ w'.cell? ⟨sb, so + i * 3, none⟩ = some (.int .i64 o.owner) ∧ w'.cell? ⟨sb, so + i * 3 + 1, none⟩ = some (.int .i64 o.kind) ∧ w'.cell? ⟨sb, so + i * 3 + 2, none⟩ = some (.slice o.bq o.bs.length o.bc) := by
          intro w' hm
          obtain ⟨_, _, e, _, c0, c1, c2⟩ := (HS.out.kept hm).cellsAt ho
          cases e
          exact ⟨(HS.out.kept hm).ok o (List.mem_of_getElem? ho) |>.b, c0, c1, c2⟩
        have hwf := (HS.out.ok o (List.mem_of_getElem? ho))
        have HBY := Lib.hid hwf.b
        have HAT := Lib.hid hat
        have HI1 := Lib.hid i1
        have HI2 := Lib.hid i2
        have HI3 := Lib.hid i3
        have HI4 := Lib.hid i4
        have HL1 := Lib.hid l1
        have HL2 := Lib.hid l2
        have HL3 := Lib.hid l3
        have HL4 := Lib.hid l4
        have HK := Lib.hid hKR
        have HRD := Lib.hid hrd
        have HA1 := Lib.hid A1
        have HA2 := Lib.hid A2
        have HA3 := Lib.hid A3
        have HA4 := Lib.hid A4
        have HB1 := Lib.hid B1
        have HB2 := Lib.hid B2
        have HB3 := Lib.hid B3
        have HB4 := Lib.hid B4
        clear hat i1 i2 i3 i4 l1 l2 l3 l4 hrd hKR A1 A2 A3 A4 B1 B2 B3 B4 ho hwf
        go_wp2_with fail
        refine (HA1.out _ B F HRD.out.two.p).mono ?_
        rintro e w1 hpo
        have HPO := Lib.hid hpo
        obtain ⟨rfl, _⟩ := hpo
        go_wp2_with fail
        refine (HB1.out _ K _ HK.out (HRD.out.mid (Mod.refl No wr) HPO.out).2).mono ?_
        rintro e w2 hro
        obtain ⟨K1, hrd1, hK1⟩ := HRD.out.pair (Mod.refl No wr) HPO.out hro HI1.out HL1.out
        obtain ⟨_, rfl, _⟩ := hro
        have HK1 := Lib.hid (hK1.trans HK.out)
        clear hK1
        have HRD1 := Lib.hid hrd1
        obtain ⟨_, c0, c1, c2⟩ := HAT.out _ hrd1.mod
        clear hrd1 HPO
        go_wp2_with fail
        refine (HA2.out _ B F HRD1.out.two.p).mono ?_
        rintro e w3 hpo
        have HPO := Lib.hid hpo
        obtain ⟨rfl, _⟩ := hpo
        clear c0 c1 c2
        obtain ⟨_, c0, c1, c2⟩ := HAT.out _ (HRD1.out.mid (Mod.refl No _) HPO.out).1
        go_wp2_with fail
        refine (HB2.out _ K1 _ HK1.out (HRD1.out.mid (Mod.refl No _) HPO.out).2).mono ?_
        rintro e w4 hro
        obtain ⟨K2, hrd2, hK2⟩ := HRD1.out.pair (Mod.refl No _) HPO.out hro HI2.out HL2.out
        obtain ⟨_, rfl, _⟩ := hro
        have HK2 := Lib.hid (hK2.trans HK1.out)
        clear hK2
        have HRD2 := Lib.hid hrd2
        clear c0 c1 c2
        have hS1 : (fun w' : World => w'.cell? ⟨sb, so + i * 3, none⟩ = some (.int .i64 o.owner) ∧ w'.cell? ⟨sb, so + i * 3 + 1, none⟩ = some (.int .i64 o.kind)) w4 := ⟨(HAT.out _ hrd2.mod).2.1, (HAT.out _ hrd2.mod).2.2.1⟩
        clear hrd2 HPO
        go_wp2_with fail
        go_region_held3 (fun w' : World => w'.cell? ⟨sb, so + i * 3, none⟩ = some (.int .i64 o.owner) ∧ w'.cell? ⟨sb, so + i * 3 + 1, none⟩ = some (.int .i64 o.kind)) (first | exact hS1 | assumption) ((go_at_call 74; refine (HA3.out _ B F (HRD2.out.no ((Mod.refl No _).drew)).two.p).mono ?_; rintro e w5 hpo; have HPO := Lib.hid hpo; have hS2 : (fun w' : World => w'.cell? ⟨sb, so + i * 3, none⟩ = some (.int .i64 o.owner) ∧ w'.cell? ⟨sb, so + i * 3 + 1, none⟩ = some (.int .i64 o.kind)) w5 := ⟨(HAT.out _ (HRD2.out.mid ((Mod.refl No _).drew) HPO.out).1).2.1, (HAT.out _ (HRD2.out.mid ((Mod.refl No _).drew) HPO.out).1).2.2.1⟩; obtain ⟨rfl, _⟩ := hpo))
        all_goals
          clear hS1
          go_wp2_with fail
          go_region_held3 (fun w' : World => w'.cell? ⟨sb, so + i * 3, none⟩ = some (.int .i64 o.owner) ∧ w'.cell? ⟨sb, so + i * 3 + 1, none⟩ = some (.int .i64 o.kind)) (first | exact hS2 | assumption) ((go_at_call 75; refine (HB3.out _ K2 _ HK2.out ((HRD2.out.mid ((Mod.refl No _).drew) HPO.out).2.keptNo ((Mod.refl No _).drew))).mono ?_; rintro e w6 hro; obtain ⟨K3, hrd3, hK3⟩ := HRD2.out.pair ((Mod.refl No _).drew) (HPO.out.more ((Mod.refl No _).drew)) hro HI3.out HL3.out; have HRD3 := Lib.hid hrd3; have HK3 := Lib.hid (hK3.trans HK2.out); have hS3 : (fun w' : World => w'.cell? ⟨sb, so + i * 3, none⟩ = some (.int .i64 o.owner) ∧ w'.cell? ⟨sb, so + i * 3 + 1, none⟩ = some (.int .i64 o.kind)) w6 := ⟨(HAT.out _ hrd3.mod).2.1, (HAT.out _ hrd3.mod).2.2.1⟩; obtain ⟨_, rfl, _⟩ := hro; clear hrd3 hK3))
          all_goals
            clear hS2 hS3 HPO
            obtain ⟨_, c0, c1, c2⟩ := HAT.out _ HRD3.out.mod
            go_wp2_with fail
            refine (HA4.out _ B F _ _ HRD3.out.two.p ((HBY.out.kept HRD3.out.mod).src)).mono ?_
            rintro e w7 hpo
            have HPO := Lib.hid hpo
            obtain ⟨rfl, _⟩ := hpo
            clear c0 c1 c2
            obtain ⟨_, c0, c1, c2⟩ := HAT.out _ (HRD3.out.mid (Mod.refl No _) HPO.out).1
            go_wp2_with fail
            refine (HB4.out _ K3 _ _ _ HK3.out (HRD3.out.mid (Mod.refl No _) HPO.out).2 (HBY.out.rsrc (HRD3.out.mid (Mod.refl No _) HPO.out).1 HRD3.out.K)).mono ?_
            rintro e w8 hro
            obtain ⟨K4, hrd4, hK4⟩ := HRD3.out.pair (Mod.refl No _) HPO.out hro HI4.out HL4.out
            obtain ⟨_, rfl, _⟩ := hro
            have HRD4 := Lib.hid hrd4
            have HK4 := Lib.hid (hK4.trans HK3.out)
            clear c0 c1 c2 hrd4 hK4 HPO
            go_wp2
            go_roundw
            case rel => exact ⟨i + 1, by omega, by go_num, K4, HRD4.out, HK4.out⟩
            case measure => simp [intOf]; omega
      · obtain rfl : i = N := by omega
        have HRD := Lib.hid hrd
        have HKR := Lib.hid hKR
        clear hrd hKR
        go_wp2
        go_ret3
        exact ⟨B, F, K, by rw [HKR.out]; rfl, ⟨⟨HRD.out.two.p, HRD.out.two.r, HG8.out⟩, HRD.out.len, HRD.out.mod, HRD.out.F, HRD.out.K⟩⟩

end Go.Proofs.Ytpfjpfepbhfmeaa
