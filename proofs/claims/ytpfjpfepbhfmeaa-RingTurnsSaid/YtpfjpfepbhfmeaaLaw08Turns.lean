/- tenementlaw08.RingTurns: the walk. -/
import Derived.Test.YtpfjpfepbhfmeaaLaw08Page
import Derived.BigQuiet
import Derived.Deep.CutBlock
namespace Go.Proofs.Ytpfjpfepbhfmeaa
open Go.RowKit
set_option maxRecDepth 100000

set_option maxHeartbeats 16000000 in
theorem rturns_any (q0 : Option Addr) (bs : List Int) (c0 : Nat) (w : World) (hb : Byt w q0 bs c0) :
    Calls Try.prog 13 #[.slice q0 bs.length c0] w fun e w' => e = .returned (.bool true) ∧ Mod No w w' := by
  have HB := Lib.hid (begin8_in none [] 0 w ⟨by simp, by simp, by simp, fun _ => ⟨rfl, rfl⟩, fun h => absurd h (by simp)⟩)
  have HBY := Lib.hid hb
  have hbl := hb.len
  have hfit := hb.fit
  clear hb
  go_enter Try.func13, Try.ntmps13
  go_wp2_with fail
  refine HB.out.mono ?_
  rintro e w1 ⟨B, F, K, rfl, h1⟩
  have H1 := Lib.hid h1
  obtain ⟨R, hR⟩ : ∃ R, R = K.R := ⟨_, rfl⟩
  rw [← hR]
  clear h1 HB hR
  go_wp2_with fail
  refine (vnew_in none [] 0 w1 H1.out.two.p ⟨fun o ho => absurd ho (by simp), fun h => absurd h (by simp)⟩ (by simp)).mono ?_
  rintro e w2 ⟨vk, rfl, hm2, hv2⟩
  have hp2 := (H1.out.no hm2).two.p
  rw [pageS_pg] at hp2
  obtain ⟨g0, hg0⟩ : ∃ g0, g0 = splice ownFr.bytes 0 (([] : List Int).take 256) := ⟨_, rfl⟩
  have hpg0 : PgT g0 0 0 0 := by
    rw [hg0]
    exact ⟨by decide, by decide, by decide, fun n h1 h2 => absurd h2 (Nat.not_lt_zero _), fun n h1 h2 => absurd h2 (Nat.not_lt_zero _), by omega⟩
  rw [← hg0] at hp2
  have HV2 := Lib.hid hv2
  have HP2 := Lib.hid hp2
  have HM2 : Hid (Mod No w w2 ∧ w.heap.size ≤ F ∧ F < w1.heap.size ∧ w.heap.size ≤ w1.heap.size) := ⟨H1.out.mod.trans hm2, H1.out.F, H1.out.two.p.ltF, H1.out.mod.size⟩
  have HPG0 := Lib.hid hpg0
  clear hv2 hp2 hm2 hpg0 hg0 H1
  go_wp2_with fail
  refine (fopen_in (x := { ownFr with bytes := g0 }) w2 HP2.out rfl).mono ?_
  rintro e w3 ⟨f, rfl, hm3, hf3, hfr3⟩
  have HM3 := Lib.hid hm3
  have HF3 := Lib.hid (And.intro hf3 hfr3)
  clear hm3 hf3 hfr3
  go_wp2_with fail
  refine (bnew_in 0 w3 (by omega)).mono ?_
  rintro e w4 ⟨rfl, hm4, hk4⟩
  have hT0 : TV w B F w3.heap.size f w1.heap.size w2.heap.size vk g0 0 0 0 0 0 w4 := by
    have h23 := HM3.out.trans hm4
    have hlt := HF3.out.2.lt
    have hsz := HM3.out.size
    have hmo := HM2.out
    have hf3 := HF3.out.1
    exact ⟨⟨HP2.out.kept h23 (fun q => q) (fun q => q), HV2.out.no h23, hk4, ⟨by simp, by simp, by simp⟩, hmo.2.2.1, .inr hsz⟩, HF3.out.2.no hm4, HM2.out.1.trans h23, by have := HM2.out.1.size; omega, HPG0.out⟩
  have HT0 := Lib.hid hT0
  clear hT0 hm4 hk4 HM2 HM3 HF3 HP2 HV2 HPG0
  generalize w3.heap.size = b at HT0 ⊢
  generalize w1.heap.size = base at HT0
  generalize w2.heap.size = top at HT0
  go_wp2_with fail
  go_loopw [12, 13, 14, 15] (fun v12 v13 v14 v15 wr => ∃ put don i : Nat, v12 = .int .i64 put ∧ v13 = .int .i64 don ∧ v14 = .int .i64 don ∧ v15 = .int .i64 i ∧ i ≤ bs.length ∧ put ≤ 16 * i ∧ ∃ g N s, (0 ≤ N ∧ N ≤ 32 * (i : Int)) ∧ TV w B F b f base top vk g put don don N s wr) (fun _ _ _ v15 _ => bs.length - (intOf v15).toNat)
  case atStart => exact ⟨0, 0, 0, rfl, rfl, rfl, rfl, by omega, by omega, _, 0, 0, by omega, HT0.out⟩
  case round =>
    clear HT0
    obtain ⟨put, don, i, rfl, rfl, rfl, rfl, hi, hpi, g, N, s, hN, hT⟩ := hrel
    have HT := Lib.hid hT
    clear hT
    have HO : Hid (don ≤ put ∧ put ≤ don + 8) := ⟨HT.out.pg.ord.2.1, HT.out.pg.ord.2.2⟩
    by_cases hlt : i < bs.length
    · have hlt' : (i : Int) < bs.length := by omega
      obtain ⟨tb, hw0⟩ : ∃ tb, tb = bs[i]'hlt := ⟨_, rfl⟩
      have htb : bs[i]? = some tb := by rw [hw0]; exact List.getElem?_eq_getElem hlt
      have htr := HBY.out.range tb (List.mem_of_getElem? htb)
      have hcell : ∀ w', Mod No w w' → ∃ qb qo, q0 = some ⟨qb, qo, none⟩ ∧ w'.cell? ⟨qb, qo + i, none⟩ = some (.int .u8 tb) := fun w' hm => by
        obtain ⟨qb, qo, e, hl, hc⟩ := (HBY.out.kept hm).at_ (by omega)
        exact ⟨qb, qo, e, hc i tb htb⟩
      obtain ⟨qb, qo, rfl, _⟩ := hcell w (Mod.refl No w)
      have HCE : Hid (∀ w', Mod No w w' → w'.cell? ⟨qb, qo + i, none⟩ = some (.int .u8 tb)) := fun w' hm => by
        obtain ⟨qb', qo', e, hc⟩ := hcell w' hm
        cases e
        exact hc
      obtain ⟨P, hP⟩ : ∃ P : Nat, (P : Int) = tb % 16 := ⟨(tb % 16).toNat, by omega⟩
      obtain ⟨Q, hQ⟩ : ∃ Q : Nat, (Q : Int) = tb / 16 := ⟨(tb / 16).toNat, by omega⟩
      have hP15 : P ≤ 15 := by omega
      have hQ15 : Q ≤ 15 := by omega
      clear hw0 htb hcell
      go_wp2_with fail
      go_loopw [12, 16] (fun v12 v16 wx => ∃ put2 k : Nat, v12 = .int .i64 put2 ∧ v16 = .int .i64 k ∧ k ≤ P ∧ put2 ≤ 16 * i + k ∧ ∃ g2, TV w B F b f base top vk g2 put2 don don N s wx) (fun _ v16 _ => P - (intOf v16).toNat)
      case atStart => exact ⟨put, 0, rfl, rfl, by omega, by omega, _, HT.out⟩
      case round =>
        clear HT HO
        obtain ⟨put2, k, rfl, rfl, hk, hp2, g2, hT2⟩ := hrel
        have HT := Lib.hid hT2
        clear hT2
        have hce := HCE.out _ HT.out.mod
        have hor := HT.out.pg.ord
        by_cases hkP : k < P
        · have hk1 : (k : Int) < tb % 16 := by omega
          have hsl := slot8_in 16 (by omega) ((put2 : Int) % 256) wr
          have HSL := Lib.hid hsl
          clear hsl
          go_wp2_with fail
          refine HSL.out.mono ?_
          rintro e w5 ⟨rfl, hm5, hs5, hg5⟩
          have HT5 := Lib.hid (HT.out.no hm5)
          have HSR := Lib.hid (Src.row hg5 (slotB_range _ _))
          clear HSL hm5 hs5 hg5
          by_cases hroom : put2 < don + 8
          · have hput := fput_ok (some ⟨wr.heap.size, 0, none⟩) 16 (slotB 16 ((put2 : Int) % 256)) w5 HT5.out.fv ⟨by omega, by omega⟩ (by omega) (slotB_len _ _) HSR.out
            rw [show (16 + 16 * ((put2 : Int) % 65536 % 8)).toNat = 16 + 16 * (put2 % 8) by omega, show ((put2 : Int) % 65536 + 1) % 65536 = ((put2 + 1 : Nat) : Int) % 65536 by omega] at hput
            have HPUT := Lib.hid hput
            have HPG := Lib.hid (HT5.out.pg.put hroom)
            clear hput HSR
            have d8 : decide ((put2 : Int) - (don : Int) < 8) = true := decide_eq_true (by omega)
            go_wp2_with fail
            refine HPUT.out.mono ?_
            rintro e w6 ⟨rfl, hfv6, hm6⟩
            have HT6 := Lib.hid (HT5.out.front hm6 hfv6 HPG.out)
            clear hfv6 hm6 HPUT HPG HT5 HT hce
            go_wp2_with fail
            go_roundw
            case rel => exact ⟨put2 + 1, k + 1, by go_num, by go_num, by omega, by omega, _, HT6.out⟩
            case measure => simp [intOf]; omega
          · have hput := fput_full (some ⟨wr.heap.size, 0, none⟩) 16 w5 HT5.out.fv ⟨by omega, by omega⟩ (by omega)
            have HPUT := Lib.hid hput
            clear hput HSR
            have d8 : decide ((put2 : Int) - (don : Int) < 8) = false := decide_eq_false (by omega)
            go_wp2_with fail
            refine HPUT.out.mono ?_
            rintro e w6 ⟨rfl, hm6⟩
            have HT6 := Lib.hid (HT5.out.no hm6)
            clear hm6 HPUT HT5 HT hce
            go_wp2_with fail
            go_roundw
            case rel => exact ⟨put2, k + 1, by go_num, by go_num, by omega, by omega, _, HT6.out⟩
            case measure => simp [intOf]; omega
        · have hk1 : ¬ (k : Int) < tb % 16 := by omega
          have hlk := look_any wr HT.out.cv ⟨by omega, by omega⟩ (by simp)
          rw [show pokes (dueAt ([] : List Pk) N) (pgF g2) = pgF g2 from rfl, turn_look HT.out.pg s] at hlk
          have HLK := Lib.hid hlk
          clear hlk
          go_wp2_with fail
          refine HLK.out.mono ?_
          rintro e w5 ⟨rfl, hc5, hm5⟩
          have HT5 := Lib.hid (HT.out.back hm5 hc5 HT.out.pg)
          clear hc5 hm5 HLK HT hce
          go_upto_block 4 with (fail)
          go_cut [13, 18, 19, 20] from 60 to 185 (fun v13 _ _ _ wx => ∃ don3 : Nat, v13 = .int .i64 don3 ∧ ∃ g3 N3, (0 ≤ N3 ∧ N3 ≤ 32 * (i : Int) + 17) ∧ TV w B F b f base top vk g3 put2 don3 don N3 ((put2 : Int) % 65536) wx)
          case first =>
            go_wp2_with fail
            go_loopw [13, 18] (fun v13 v18 wx => ∃ don3 k3 : Nat, v13 = .int .i64 don3 ∧ v18 = .int .i64 k3 ∧ k3 ≤ Q ∧ ∃ g3 N3, (0 ≤ N3 ∧ N3 ≤ 32 * (i : Int) + 1 + k3) ∧ TV w B F b f base top vk g3 put2 don3 don N3 ((put2 : Int) % 65536) wx) (fun _ v18 _ => Q - (intOf v18).toNat)
            case atStart => exact ⟨don, 0, rfl, rfl, by omega, g2, N + 1, by omega, HT5.out⟩
            case round =>
              clear HT5
              obtain ⟨don3, k3, rfl, rfl, hk3, g3, N3, hN3, hT3⟩ := hrel
              have HT := Lib.hid hT3
              clear hT3
              have hce := HCE.out _ HT.out.mod
              have hor := HT.out.pg.ord
              by_cases hkQ : k3 < Q
              · have hk1 : (k3 : Int) < tb / 16 := by omega
                by_cases hdp : don3 < put2
                · have hnb : ¬ (⟨0, (don3 : Int) % 65536, (don3 : Int) % 65536, (put2 : Int) % 65536⟩ : Bk).busy := by
                    unfold Bk.busy Bk.wait Bk.btw
                    simp only
                    omega
                  have htk := take_ok { ownFr with bytes := g3 } wr HT.out.cv hnb ⟨by omega, by omega⟩ (by simp) (by simp [pgF]) (by rfl)
                  rw [show (({ ownFr with bytes := g3 } : Fr).bytes.drop (⟨0, (don3 : Int) % 65536, (don3 : Int) % 65536, (put2 : Int) % 65536⟩ : Bk).slot.toNat).take 16 = slotB 16 ((don3 : Int) % 256) by
                    have h1 := HT.out.pg.q don3 (Nat.le_refl _) hdp
                    have h2 : (⟨0, (don3 : Int) % 65536, (don3 : Int) % 65536, (put2 : Int) % 65536⟩ : Bk).slot.toNat = 16 + 16 * (don3 % 8) := by simp only [Bk.slot]; omega
                    rw [h2]
                    exact h1] at htk
                  have HTK := Lib.hid htk
                  have d9 : decide ((don3 : Int) < (put2 : Int)) = true := decide_eq_true (by omega)
                  clear htk hnb
                  go_wp2_with fail
                  refine HTK.out.mono ?_
                  rintro e w6 ⟨gr, rfl, hgr0, hgr1, hgr6, hc6, hm6⟩
                  obtain ⟨ar, har⟩ : ∃ ar, ar = slotB 16 ((don3 : Int) % 256) := ⟨_, rfl⟩
                  have hal : ar.length = 16 := by rw [har, slotB_len]
                  obtain ⟨an, han⟩ : ∃ an, an = slotB 8 ((don3 : Int) % 256) := ⟨_, rfl⟩
                  have hnl : an.length = 8 := by rw [han, slotB_len]
                  have hnr : ∀ x ∈ an, 0 ≤ x ∧ x ≤ 255 := by rw [han]; exact slotB_range _ _
                  have HS16 : Hid (∀ w', Calls Try.prog 51 #[.int .i64 16, .int .u8 ((don3 : Int) % 256)] w' fun e w2 => e = .returned (.slice (some ⟨w'.heap.size, 0, none⟩) 16 16) ∧ Mod No w' w2 ∧ w'.heap.size < w2.heap.size ∧ w2.heap[w'.heap.size]? = some (.cells (ar.map (Value.int .u8)).toArray 5 (0, 0))) := fun w' => by rw [har]; exact slot8_in 16 (by omega) _ w'
                  have HS8 : Hid (∀ w', Calls Try.prog 51 #[.int .i64 8, .int .u8 ((don3 : Int) % 256)] w' fun e w2 => e = .returned (.slice (some ⟨w'.heap.size, 0, none⟩) 8 8) ∧ Mod No w' w2 ∧ w'.heap.size < w2.heap.size ∧ w2.heap[w'.heap.size]? = some (.cells (an.map (Value.int .u8)).toArray 5 (0, 0))) := fun w' => by rw [han]; exact slot8_in 8 (by omega) _ w'
                  have HPG := Lib.hid (HT.out.pg.ans hdp)
                  rw [← han] at HPG
                  rw [← har] at hgr6
                  have hta := turn_ans (g := g3) (don := don3) (x := ((don3 : Int) % 65536 + 1) % 65536) (s := (put2 : Int) % 65536) an hnl
                  have hc6' : CV B F b base top vk (N3 + 1) [] (pgF g3) ⟨0, ((don3 : Int) % 65536 + 1) % 65536, (don3 : Int) % 65536, (put2 : Int) % 65536⟩ w6 := hc6
                  have HAN : Hid (∀ w' p c, Mod No w6 w' → Src w' p an → Calls Try.prog 52 #[.pointer (some ⟨b, 0, none⟩), .pointer (some ⟨vk.V, 0, none⟩), .slice p 8 c] w' fun e w2 => e = .returned (.int .i64 0) ∧ CV B F b base top vk (N3 + 1) [] (pgF (splice (splice g3 (144 + 8 * (don3 % 8)) an) 2 (twoB (((don3 + 1 : Nat) : Int) % 65536)))) ⟨0, ((don3 + 1 : Nat) : Int) % 65536, ((don3 + 1 : Nat) : Int) % 65536, (put2 : Int) % 65536⟩ w2 ∧ Mod (P3 F vk b) w' w2) := fun w' p c hm hs => by
                    have h1 := ans_ok p an c w' (hc6'.no hm) (by unfold Bk.btw; simp only; omega) hnl hs
                    rw [hta, show (⟨0, ((don3 : Int) % 65536 + 1) % 65536, (don3 : Int) % 65536, (put2 : Int) % 65536⟩ : Bk).laid = ⟨0, ((don3 + 1 : Nat) : Int) % 65536, ((don3 + 1 : Nat) : Int) % 65536, (put2 : Int) % 65536⟩ by unfold Bk.laid; simp only; congr 1 <;> omega] at h1
                    exact h1
                  have HNE : Hid (gr ≠ F ∧ gr ≠ vk.V ∧ gr ≠ b) := ⟨by have h1 := lt_of_blk HT.out.cv.v.head; have h2 := HT.out.cv.p.ltF; omega, by have h1 := lt_of_blk HT.out.cv.v.head; omega, by have h1 := HT.out.cv.bk.lt; omega⟩
                  have HGR := Lib.hid hgr6
                  have HM6 := Lib.hid hm6
                  have HNR := Lib.hid hnr
                  have hcvr : ∀ w' : World, w'.heap[gr]? = some (.cells (ar.map (Value.int .u8)).toArray 5 (0, 0)) → (convert 31 9 (.slice (some ⟨gr, 0, none⟩) 16 16)).run Try.prog w' = .ok (.string (strOfNums ar)) w' := fun w' h => conv_row h 0 16 16 ar (by rw [List.drop_zero, List.take_of_length_le (by omega)]) (by omega)
                  have hcvs : ∀ (w' : World) (g : Nat), w'.heap[g]? = some (.cells (ar.map (Value.int .u8)).toArray 5 (0, 0)) → (convert 31 9 (.slice (some ⟨g, 0, none⟩) 16 16)).run Try.prog w' = .ok (.string (strOfNums ar)) w' := fun w' g h => conv_row h 0 16 16 ar (by rw [List.drop_zero, List.take_of_length_le (by omega)]) (by omega)
                  have hS1 : (fun w' : World => (convert 31 9 (.slice (some ⟨gr, 0, none⟩) 16 16)).run Try.prog w' = .ok (.string (strOfNums ar)) w') w6 := hcvr _ hgr6
                  have hS2 : (fun w' : World => (convert 31 9 (.slice (some ⟨gr, 0, none⟩) 16 16)).run Try.prog w' = .ok (.string (strOfNums ar)) w') w6.drew := hcvr _ hgr6
                  have HCV := Lib.hid hcvr
                  have HCS := Lib.hid hcvs
                  clear hgr6 hm6 hnr har han hta hc6 hc6' hcvr hcvs HTK
                  go_upto_region 31 with (fail)
                  go_region_with (first
                    | ((fail_if_success (clear HM7)); go_at_call 51; refine (HS16.out _).mono ?_; rintro e w7 ⟨rfl, hm7, hs7, hg7⟩; have hcv7 : (convert 31 9 (.slice (some ⟨w6.heap.size, 0, none⟩) 16 16)).run Try.prog w7 = .ok (.string (strOfNums ar)) w7 := HCS.out w7 _ hg7; have HM7 := Lib.hid hm7; have hS7 : (fun w' : World => (convert 31 9 (.slice (some ⟨gr, 0, none⟩) 16 16)).run Try.prog w' = .ok (.string (strOfNums ar)) w') w7 := HCV.out w7 (HM7.out.blk HGR.out (fun q => q)); clear hm7 hs7 hg7)
                    | (go_at_call 51; refine (HS8.out _).mono ?_; rintro e w8 ⟨rfl, hm8, hs8, hg8⟩; have HM8 := Lib.hid (HM7.out.trans hm8); have HSRC := Lib.hid (Src.row hg8 HNR.out); have hS8 : (fun w' : World => (convert 31 9 (.slice (some ⟨gr, 0, none⟩) 16 16)).run Try.prog w' = .ok (.string (strOfNums ar)) w') w8 := HCV.out w8 (HM8.out.blk HGR.out (fun q => q)); clear hm8 hs8 hg8)
                    | (go_at_call 52; refine (HAN.out _ _ _ ((Mod.refl No w6).drew.trans HM8.out) HSRC.out).mono ?_; rintro e w9 ⟨rfl, hc9, hm9⟩; have HC9 := Lib.hid hc9; have HM9 := Lib.hid hm9; have hS9 : (fun w' : World => (convert 31 9 (.slice (some ⟨gr, 0, none⟩) 16 16)).run Try.prog w' = .ok (.string (strOfNums ar)) w') w9 := HCV.out w9 (HM9.out.blk (HM8.out.blk HGR.out (fun q => q)) (fun q => q.elim HNE.out.1 (fun q => q.elim HNE.out.2.1 HNE.out.2.2))); clear hc9 hm9))
                  all_goals (
                    have HT9 := Lib.hid (HT.out.back ((HM6.out.trans (Mod.of_no ((Mod.refl No w6).drew.trans HM8.out))).trans HM9.out) HC9.out HPG.out)
                    clear HT HM6 HM7 HM8 HM9 HC9 HPG HSRC HCV HCS HAN HS16 HS8 HNE HGR HNR hS1 hS2 hS7 hS8 hS9 hcv7 hce
                    go_wp2_with fail
                    go_roundw
                    case rel => exact ⟨don3 + 1, k3 + 1, by go_num, by go_num, by omega, _, N3 + 1, by omega, HT9.out⟩
                    case measure => simp [intOf]; omega)
                · have hbz : (⟨0, (don3 : Int) % 65536, (don3 : Int) % 65536, (put2 : Int) % 65536⟩ : Bk).busy := by
                    unfold Bk.busy Bk.wait Bk.btw
                    simp only
                    omega
                  have htk := take_busy wr HT.out.cv hbz
                  have HTK := Lib.hid htk
                  have d9 : decide ((don3 : Int) < (put2 : Int)) = false := decide_eq_false (by omega)
                  clear htk hbz
                  go_wp2_with fail
                  refine HTK.out.mono ?_
                  rintro e w6 ⟨rfl, hm6⟩
                  have HTE := Lib.hid (HT.out.no hm6)
                  clear HT hm6 HTK hce
                  go_wp2_with fail
                  go_meet
                  exact ⟨don3, rfl, g3, N3, by omega, HTE.out⟩
              · have hk1 : ¬ (k3 : Int) < tb / 16 := by omega
                have HTE := Lib.hid HT.out
                clear HT
                go_wp2_with fail
                go_meet
                exact ⟨don3, rfl, g3, N3, by omega, HTE.out⟩
          case rest =>
            clear HT5
            obtain ⟨don3, rfl, g3, N3, hN3, hT3⟩ := hcut
            have HT3 := Lib.hid hT3
            have hp2' : put2 ≤ 16 * i + 15 := by omega
            clear hT3 hor hkP hk1
            go_wp2_with fail
            go_loopw [14] (fun v14 wx => ∃ got : Nat, v14 = .int .i64 got ∧ TV w B F b f base top vk g3 put2 don3 got N3 ((put2 : Int) % 65536) wx) (fun v14 _ => don3 - (intOf v14).toNat)
            case atStart => exact ⟨don, rfl, HT3.out⟩
            case round =>
              clear HT3
              obtain ⟨got, rfl, hT4⟩ := hrel
              have HT := Lib.hid hT4
              clear hT4
              have hor := HT.out.pg.ord
              by_cases hgd : got < don3
              · have hg1 : (got : Int) < (don3 : Int) := by omega
                have hget := fget_ok wr HT.out.fv ⟨by omega, by omega⟩ (by omega) (by
                  have h1 : (g3.drop 2).take 2 = twoB ((don3 : Int) % 65536) := HT.out.pg.b
                  rw [h1, word_two]
                  omega)
                rw [show (g3.drop (144 + 8 * ((got : Int) % 65536 % 8)).toNat).take 8 = slotB 8 ((got : Int) % 256) by
                  have h1 := HT.out.pg.r got (Nat.le_refl _) hgd
                  rw [show (144 + 8 * ((got : Int) % 65536 % 8)).toNat = 144 + 8 * (got % 8) by omega]
                  exact h1, show ((got : Int) % 65536 + 1) % 65536 = ((got + 1 : Nat) : Int) % 65536 by omega] at hget
                have HGET := Lib.hid hget
                clear hget
                go_wp2_with fail
                refine HGET.out.mono ?_
                rintro e w6 ⟨gr, rfl, hgr0, hgr1, hgr6, hfv6, hm6⟩
                have HT6 := Lib.hid (HT.out.front (hm6.mono (fun i _ (q : i = f) => .inr q)) hfv6 (HT.out.pg.get hgd))
                obtain ⟨an, han⟩ : ∃ an, an = slotB 8 ((got : Int) % 256) := ⟨_, rfl⟩
                have hnl : an.length = 8 := by rw [han, slotB_len]
                have HS8 : Hid (∀ w', Calls Try.prog 51 #[.int .i64 8, .int .u8 ((got : Int) % 256)] w' fun e w2 => e = .returned (.slice (some ⟨w'.heap.size, 0, none⟩) 8 8) ∧ Mod No w' w2 ∧ w'.heap.size < w2.heap.size ∧ w2.heap[w'.heap.size]? = some (.cells (an.map (Value.int .u8)).toArray 5 (0, 0))) := fun w' => by rw [han]; exact slot8_in 8 (by omega) _ w'
                rw [← han] at hgr6
                have hcvs : ∀ (w' : World) (g : Nat), w'.heap[g]? = some (.cells (an.map (Value.int .u8)).toArray 5 (0, 0)) → (convert 31 9 (.slice (some ⟨g, 0, none⟩) 8 8)).run Try.prog w' = .ok (.string (strOfNums an)) w' := fun w' g h => conv_row h 0 8 8 an (by rw [List.drop_zero, List.take_of_length_le (by omega)]) (by omega)
                have hS1 : (fun w' : World => (convert 31 9 (.slice (some ⟨gr, 0, none⟩) 8 8)).run Try.prog w' = .ok (.string (strOfNums an)) w') w6 := hcvs _ _ hgr6
                have hS2 : (fun w' : World => (convert 31 9 (.slice (some ⟨gr, 0, none⟩) 8 8)).run Try.prog w' = .ok (.string (strOfNums an)) w') w6.drew := hcvs _ _ hgr6
                have HCS := Lib.hid hcvs
                have HGR := Lib.hid hgr6
                clear hgr6 han hfv6 hm6 hcvs HGET HT
                go_upto_region 36 with (fail)
                go_region_with (first
                  | (go_at_call 51; refine (HS8.out _).mono ?_; rintro e w7 ⟨rfl, hm7, hs7, hg7⟩; have hcv7 : (convert 31 9 (.slice (some ⟨w6.heap.size, 0, none⟩) 8 8)).run Try.prog w7 = .ok (.string (strOfNums an)) w7 := HCS.out w7 _ hg7; have HM7 := Lib.hid hm7; have hS7 : (fun w' : World => (convert 31 9 (.slice (some ⟨gr, 0, none⟩) 8 8)).run Try.prog w' = .ok (.string (strOfNums an)) w') w7 := HCS.out w7 _ (HM7.out.blk HGR.out (fun q => q)); clear hm7 hs7 hg7))
                all_goals (
                  have HT7 := Lib.hid (HT6.out.no ((Mod.refl No w6).drew.trans HM7.out))
                  clear HT6 HM7 HS8 HCS HGR hS1 hS2 hS7 hcv7
                  go_wp2_with fail
                  go_roundw
                  case rel => exact ⟨got + 1, by go_num, HT7.out⟩
                  case measure => simp [intOf]; omega)
              · obtain rfl : got = don3 := by omega
                have hg1 : ¬ (got : Int) < (got : Int) := by omega
                have HRM : Hid (∀ w', Mod No wr w' → Calls Try.prog 64 #[.pointer (some ⟨f, 0, none⟩)] w' fun e w2 => e = .returned (.int .i64 (8 - ((put2 : Int) - got))) ∧ Mod No w' w2) := fun w' hm => by
                  have h1 := froom_made w' (HT.out.fr.no hm)
                  rwa [show ((put2 : Int) % 65536 - (got : Int) % 65536) % 65536 = (put2 : Int) - got by omega] at h1
                by_cases hpd : put2 = got
                · have hget := fget_state wr HT.out.fv (by omega)
                  have HGET := Lib.hid hget
                  have d7 : ((got : Int) == (put2 : Int)) = true := by rw [hpd]; exact beq_self_eq_true _
                  clear hget
                  go_wp2_with fail
                  refine HGET.out.mono ?_
                  rintro e w6 ⟨rfl, hm6⟩
                  have HT6 := Lib.hid (HT.out.no hm6)
                  have HM6 := Lib.hid hm6
                  clear HT hm6 HGET
                  go_wp2_with fail
                  refine (HRM.out _ HM6.out).mono ?_
                  rintro e w7 ⟨rfl, hm7⟩
                  have HT7 := Lib.hid (HT6.out.no hm7)
                  clear HT6 hm7 HM6 HRM
                  go_wp2_with fail
                  have HX := HT7.out
                  rw [hpd] at HX
                  exact ⟨⟨got, got, i + 1, rfl, rfl, rfl, by go_num, by omega, by omega, _, _, _, by omega, HX⟩, by simp [intOf]; omega⟩
                · have hget := fget_short wr HT.out.fv (by omega) (by
                    have h1 : (g3.drop 2).take 2 = twoB ((got : Int) % 65536) := HT.out.pg.b
                    rw [h1, word_two])
                  have HGET := Lib.hid hget
                  have d7 : ((got : Int) == (put2 : Int)) = false := beq_eq_false_iff_ne.2 (by omega)
                  clear hget
                  go_wp2_with fail
                  refine HGET.out.mono ?_
                  rintro e w6 ⟨rfl, hm6⟩
                  have HT6 := Lib.hid (HT.out.no hm6)
                  have HM6 := Lib.hid hm6
                  clear HT hm6 HGET
                  go_wp2_with fail
                  refine (HRM.out _ HM6.out).mono ?_
                  rintro e w7 ⟨rfl, hm7⟩
                  have HT7 := Lib.hid (HT6.out.no hm7)
                  clear HT6 hm7 HM6 HRM
                  go_wp2_with fail
                  exact ⟨⟨put2, got, i + 1, rfl, rfl, rfl, by go_num, by omega, by omega, _, _, _, by omega, HT7.out⟩, by simp [intOf]; omega⟩
    · obtain rfl : i = bs.length := by omega
      have hRM := froom_made wr HT.out.fr
      rw [show ((put : Int) % 65536 - (don : Int) % 65536) % 65536 = (put : Int) - don by have := HO.out; omega] at hRM
      have HRM := Lib.hid hRM
      have HMO := Lib.hid HT.out.mod
      have ho := HO.out
      clear hRM HT
      go_wp2_with fail
      refine HRM.out.mono ?_
      rintro e w6 ⟨rfl, hm6⟩
      have HM6 := Lib.hid (HMO.out.trans hm6)
      clear hm6 HRM HMO
      go_wp2_with fail
      go_ret
      exact ⟨by simp, HM6.out⟩

end Go.Proofs.Ytpfjpfepbhfmeaa
