/- The law on what is put out: it comes out. (Printed by wip/gen_bytes.py.) -/
import Derived.Test.YtmdeljacbekbpaaDoorBytesUp
import Derived.Deep.CutRange
import Derived.Deep.CutBlock
namespace Go.Proofs.YtmdeljacbekbpaaDoor
open Go.RowKit
set_option maxRecDepth 100000

set_option maxHeartbeats 16000000 in
theorem outs_any (q0 : Option Addr) (cap0 : Nat) (ps : List BBy) (w : World) (hp : BBs w q0 ps) (hlen : ps.length ≤ 1048576) (hT : Lib.Utf8Tabs 0 1 w) :
    Calls Tryd.prog 6 #[.slice q0 ps.length cap0] w fun e w' => e = .returned (.bool true) ∧ Mod No w w' := by
  have HP := Lib.hid hp
  have HT := Lib.hid hT
  have hw1 : 1 < w.heap.size := World.block_lt_of_cell? w _ (hT.2 0 (by omega)).1
  obtain ⟨u0, hu, hu0, hu1, hu2⟩ := info_parts Tryd.infoU8
  obtain ⟨i0, hi0, hz0, hz1, hz2⟩ := info_parts Tryd.infoStr
  clear hp hT
  go_enter Tryd.func6, Tryd.ntmps6
  go_wp2_with fail
  refine (begin16_any w).mono ?_
  rintro e w1 ⟨B, F, K, rfl, hrd, hB⟩
  have HRD := Lib.hid hrd
  have HBB := Lib.hid hB
  clear hrd hB
  go_wp2_with fail
  refine (cnew0 w1).mono ?_
  rintro e w2 ⟨rfl, hm2, hco2, hb2⟩
  have hP2 := HRD.out.two.p.kept hm2 (fun q => q) (fun q => q)
  have HV := Lib.hid (vnew_in none [] 0 w2 hP2 ⟨by simp, by simp⟩ (by simp))
  have HM2 := Lib.hid hm2
  have HCO2 := Lib.hid hco2
  have HB2 := Lib.hid hb2
  have HP2 := Lib.hid hP2
  clear hm2 hco2 hb2 hP2
  go_wp2_with fail
  refine HV.out.mono ?_
  rintro e w3 ⟨vk, rfl, hm3, hv3⟩
  have hup : UB w B F w1.heap.size w2.heap.size w3.heap.size vk 0 own1Fr.bytes ⟨0, (((0 : Nat) % 65536 : Nat) : Int), 0⟩ (.slice none 0 0) (.slice none 0 0) (.slice none 0 0) (.slice none 0 0) ([], []) ([], []) w3 := by
    have hF := HRD.out.F
    have hs1 := HRD.out.mod.size
    have hF1 := HRD.out.two.p.ltF
    have hs2 := HB2.out
    have hr := hv3.d.rng
    have hs3 := hm3.size
    have hBl : B < w1.heap.size := by
      obtain ⟨d, _, hc⟩ := HRD.out.two.p.head
      exact lt_of_blk hc
    have hnil : ∀ j, ¬ Own2 (.slice none 0 0) (.slice none 0 0) j := fun j hj => by rcases hj with hj | hj <;> cases hj
    have hmm := HRD.out.mod.trans (HM2.out.trans hm3)
    exact ⟨⟨⟨HP2.out.kept hm3 (fun q => q) (fun q => q), hv3, HCO2.out.no hm3, ⟨by simp, by simp⟩, by omega, .inl hs2⟩, LP.nil _ _, by omega, fun j hj => absurd hj (hnil j), Nat.le_refl _, Nat.le_refl _, Utf8Tabs_below HT.out hmm.no_below, by omega, by simp⟩, LP.nil _ _, fun j hj => absurd hj (hnil j), ⟨hs2, by omega⟩, hmm, by omega⟩
  have HUP := Lib.hid hup
  clear hup
  generalize w1.heap.size = b at HUP ⊢
  generalize w2.heap.size = base at HUP ⊢
  generalize w3.heap.size = top at HUP ⊢
  go_wp2_with fail
  go_loopw [10, 11, 12, 13] (fun vp vw vq vi wx => ∃ (i put : Nat) (g : List Int) (N : Int) (lv pv : Value) (s : List (List Int) × List Int), vp = .int .i64 put ∧ vi = .int .i64 i ∧ i ≤ ps.length ∧ put ≤ 128 * i ∧ g.length = 256 ∧ (0 ≤ N ∧ N ≤ 3 * i) ∧ s.1.length ≤ put ∧ UB w B F b base top vk N g ⟨0, ((put % 65536 : Nat) : Int), 0⟩ lv pv vw vq s s wx) (fun _ _ _ vi _ => ps.length - (intOf vi).toNat)
  case atStart => exact ⟨0, 0, own1Fr.bytes, 0, _, _, ([], []), rfl, rfl, by omega, by omega, by simp [own1Fr, freeFr], by omega, by simp, HUP.out⟩
  case round =>
    clear HUP HP2 HCO2 HM2 HB2 HV HRD HBB
    obtain ⟨i, put, g, N, lv, pv, s, rfl, rfl, hi, hput, hg, hN, hsl, hup⟩ := hrel
    by_cases hlt : i < ps.length
    · have hlt' : (i : Int) < ps.length := by omega
      obtain ⟨pq, po, rfl, hpb, hpc⟩ := HP.out.at_ (by omega)
      obtain ⟨o, hoi⟩ : ∃ o, ps[i]? = some o := ⟨_, List.getElem?_eq_getElem hlt⟩
      have hby := HP.out.ok o (List.mem_of_getElem? hoi)
      have hpi := hpc i o hoi
      obtain ⟨bq, bs0, bc⟩ := o
      dsimp only [BBy.val] at hby hpi
      have c1 : wr.cell? ⟨pq, po + i, none⟩ = some (.slice bq bs0.length bc) := (World.cell?_of_block (w := w) (hup.mod.block pq hpb (fun q => q))).trans hpi
      obtain ⟨bs, hbs⟩ : ∃ bs, bs = bs0.take 128 := ⟨_, rfl⟩
      have hbl : bs.length = min 128 bs0.length := by rw [hbs, List.length_take]
      have hl0 := hby.len
      have hfit := hby.fit
      have HUP := Lib.hid hup
      have HBY := Lib.hid hby
      have HBS := Lib.hid hbs
      have HG := Lib.hid hg
      have HN := Lib.hid hN
      have HSL := Lib.hid hsl
      clear hup hpc hby hpi hoi hbs hg hN hsl hlt
      go_upto_if 53 with (fail)
      go_cut [14] from 53 to 55 (fun v14 wx => v14 = .slice bq bs.length bc ∧ wx = wr)
      case first =>
        by_cases hbig : 128 < bs0.length
        · have h1 : (128 : Int) < bs0.length := by omega
          have h2 : bs.length = 128 := by omega
          have h3 : 128 ≤ bc := by omega
          have h4 : (128 : Int) ≤ bc := by omega
          have H2 := Lib.hid h2
          clear h2 hbl
          go_wp2_with fail
          go_meet
          exact ⟨by rw [H2.out], rfl⟩
        · have h1 : ¬ (128 : Int) < bs0.length := by omega
          have h2 : bs.length = bs0.length := by omega
          have H2 := Lib.hid h2
          clear h2 hbl
          go_wp2_with fail
          go_meet
          exact ⟨by rw [H2.out], rfl⟩
      case rest =>
      obtain ⟨rfl, hwc⟩ := hcut
      obtain rfl : wr = wc := hwc.symm
      clear hwc
      have hb128 : bs.length ≤ 128 := by omega
      have hbc : bs.length ≤ bc := by omega
      have hbl9 : bs.length ≤ bs0.length := by omega
      clear hbl
      have HPA : Hid (∀ k x, bs[k]? = some x → (0 ≤ x ∧ x ≤ 255) ∧ ∃ b6 o6, bq = some ⟨b6, o6, none⟩ ∧ b6 < w.heap.size ∧ ∀ w', Mod No w w' → w'.cell? ⟨b6, o6 + k, none⟩ = some (.int .u8 x)) := fun k x hx => by
        rw [HBS.out] at hx
        have hk : k < 128 := by have := (List.getElem?_eq_some_iff.1 hx).1; rw [List.length_take] at this; omega
        rw [List.getElem?_take_of_lt hk] at hx
        obtain ⟨b6, o6, e6, hb6, hc6⟩ := HBY.out.at_ (by have := (List.getElem?_eq_some_iff.1 hx).1; omega)
        exact ⟨HBY.out.range x (List.mem_of_getElem? hx), b6, o6, e6, hb6, fun w' hm => (World.cell?_of_block (w := w) (hm.block b6 hb6 (fun q => q))).trans (hc6 k x hx)⟩
      go_wp2_with fail
      go_loopw [10, 11, 12, 15] (fun vp vw2 vq2 vz wx => ∃ (k p : Nat), vp = .int .i64 p ∧ vz = .int .i64 k ∧ k ≤ bs.length ∧ p = put + k ∧ UB w B F b base top vk N (putB g put (bs.take k)) ⟨0, ((put % 65536 : Nat) : Int), 0⟩ lv pv vw2 vq2 s (comesR s (bs.take k)) wx) (fun _ _ _ vz _ => bs.length - (intOf vz).toNat)
      case atStart => exact ⟨0, put, rfl, rfl, by omega, rfl, HUP.out⟩
      case round =>
        clear HUP
        obtain ⟨k, p, rfl, rfl, hk, hpk, hup⟩ := hrel
        by_cases hkn : k < bs.length
        · have hkn2 : (k : Int) < bs.length := by omega
          obtain ⟨x, hx⟩ : ∃ x, bs[k]? = some x := ⟨_, List.getElem?_eq_getElem hkn⟩
          obtain ⟨hxr, b6, o6, rfl, hb6, hxc⟩ := HPA.out k x hx
          have HXC := Lib.hid hxc
          have hli := comesR_lines (bs.take k) s
          have hpt := comesR_part (bs.take k) s hup.dw.part
          have hsl := HSL.out
          rw [List.length_take] at hli
          have hsn := comesR_snoc s (bs.take k) x
          have hpn := putB_snoc (bs.take k) g put x
          have htk : bs.take k ++ [x] = bs.take (k + 1) := by rw [List.take_add_one, hx]; rfl
          rw [htk] at hsn hpn
          rw [show (bs.take k).length = k by rw [List.length_take]; omega, ← hpk] at hpn
          obtain ⟨ls, lp⟩ : ∃ ls lp, comesR s (bs.take k) = (ls, lp) := ⟨_, _, rfl⟩
          generalize comesR s (bs.take k) = sk at hup hli hpt hsn
          obtain ⟨ls, lp⟩ := sk
          dsimp only at hli hpt
          obtain ⟨gw, cw, rfl⟩ := owns_slice hup.lw.rl
          obtain ⟨gq, cq, rfl⟩ := owns_slice hup.lw.rp
          dsimp only
          have hW := ub_write hup (16 + ((p % 128 : Nat) : Int)) (some ⟨b6, o6 + k, none⟩) (bc - k) [x] (by omega) (by rw [one_len]; omega) ⟨fun y hy => by rw [List.mem_singleton.1 hy]; exact hxr, fun _ => ⟨_, rfl, fun j y hj => by
            cases j with
            | zero =>
              obtain rfl : x = y := by simpa using hj
              exact HXC.out wr hup.mod
            | succ j => simp at hj⟩⟩
          rw [show (16 + ((p % 128 : Nat) : Int)).toNat = 16 + p % 128 by omega, ← hpn, show ((p % 128 : Nat) : Int) = (p : Int) % 128 by omega, one_len] at hW
          have HW := Lib.hid hW
          have HSN := Lib.hid hsn
          have HPK := Lib.hid hpk
          have p0 : (0 : Int) ≤ (p : Int) := by omega
          have k0 : (0 : Int) ≤ (k : Int) := by omega
          have k3 : IntKind.i64.wrap ((k : Int) + 1) = (k : Int) + 1 := IntWalk.i64_in _ (by omega)
          have k4 : IntKind.i64.wrap ((p : Int) + 1) = (p : Int) + 1 := IntWalk.i64_in _ (by omega)
          have t1 : (0 : Int) ≤ (k : Int) + 1 := by omega
          have t2 : ((k : Int) + 1).toNat = k + 1 := by omega
          have t3 : k ≤ k + 1 := by omega
          have t4 : k + 1 - k = 1 := by omega
          have t6 : bc ≠ k := by omega
          have t7 : (k : Int) ≤ (k : Int) + 1 := by omega
          have hci : k + 1 ≤ bc := by omega
          have hci2 : (k : Int) + 1 ≤ (bc : Int) := by omega
          have hls5 : (ls.length + 1) * 16 ≤ 140737488355328 := by omega
          have t9 : IntKind.i64.wrap (16 + (p : Int) % 128) = 16 + (p : Int) % 128 := IntWalk.i64_in _ (by omega)
          clear hup hx hxc hsn hpn htk hpk hli hsl hW
          go_upto_region 22 with (go_at_call 17; refine HW.out.mono ?_; rintro e w5 ⟨rfl, hup5⟩; have HUP5 := Lib.hid hup5; clear hup5)
          have c5 := HXC.out w5 HUP5.out.mod
          have hsz5 := HUP5.out.dw.b0
          clear t1 t2 t3 t4 t6 t7 hci hci2
          have HPA5 := Lib.hid (HUP5.out.lw.no ((Mod.refl No w5).alloc (.cells #[.int .u8 x] 5)))
          by_cases hx10 : x = 10
          · have d0 : (x != 10) = false := by rw [hx10]; rfl
            have d1 : (x == 10) = true := beq_iff_eq.2 hx10
            have HR : Hid (comesR s (bs.take (k + 1)) = (ls ++ [lp], [])) := by
              rw [HSN.out]; unfold comeR; rw [if_pos hx10]; exact rfl
            have HUPW := HUP5
            clear hx10
            have HSH : Hid (Calls Tryd.prog 10 #[.slice gq lp.length cq] w5 fun e w7 => e = .returned (.string (lineT lp)) ∧ Mod No w5 w7) := by
              have hl9 : 4 * (lp).length ≤ 140737488355328 := by omega
              have hl8 : (lp).length ≤ 140737488355328 := by omega
              have h9 := refshow_any gq lp cq w5 (Byt.ofOwn HUPW.out.lw.rp HUPW.out.lw.rng hl8).2.1 hl9
              exact h9
            go_upto_region 26 with (first
              | (go_at_call 10; refine HSH.out.mono ?_; rintro e w7 ⟨rfl, hm7⟩; have HUP7 := Lib.hid (HUPW.out.no hm7); have hsz7 := HUP7.out.dw.b0; have HPA7 := Lib.hid (HUP7.out.lw.no ((Mod.refl No w7).alloc (.cells #[.string (lineT lp)] 9))); clear hm7)
              | (at_builtin; refine wpList_append2 rfl _ _ 46 rfl top 9 i0 (.string ⟨#[]⟩) 1 16 Tryd.underlying46 hi0 hz0 hz1 hz2 rfl (by decide) (.slice gw ls.length cw) ls.length (ls.map lineV) rfl HPA7.out.rl ⟨w7.heap.size, 0, none⟩ 1 1 [.string (lineT lp)] rfl rfl (cell_one_new w7 (.string (lineT lp)) 9) (by simp [Value.oneCell']) (by unfold maxLen; omega) (by omega) (by rw [World.size_alloc]; omega) (by omega) ?_; intro v8 w8 hown8 hgr8 hsp8; have hpp := HUP7.out.lw.pushL (q := lp) ((Mod.refl No w7).alloc (.cells #[.string (lineT lp)] 9)) hown8 hgr8 hsp8; obtain ⟨q8, c8, rfl⟩ := owns_slice hown8; have HUP8 := Lib.hid (HUP7.out.law (s3 := (ls ++ [lp], [])) hpp.1 hpp.2.1 hpp.2.2); clear hown8 hgr8 hsp8 hpp))
            go_wp2_with fail
            go_roundw
            case rel => exact ⟨k + 1, p + 1, by go_num, by go_num, by omega, by have := HPK.out; omega, by rw [HR.out]; exact HUP8.out⟩
            case measure => simp [intOf]; omega
          · have d0 : (x != 10) = true := bne_iff_ne.2 hx10
            have d1 : (x == 10) = false := beq_eq_false_iff_ne.2 hx10
            by_cases h128 : (lp ++ [x]).length = 128
            · have HR : Hid (comesR s (bs.take (k + 1)) = (ls ++ [lp ++ [x]], [])) := by
                rw [HSN.out]; unfold comeR; rw [if_neg hx10, if_pos h128]; exact rfl
              rw [List.length_append, List.length_singleton] at h128
              have d2 : (((lp.length + 1 : Nat) : Int) == 128) = true := by rw [h128]; rfl
              have d3 : ((lp.length : Int) + 1 == 128) = true := beq_iff_eq.2 (by omega)
              clear hx10 h128
              go_upto_region 24 with (at_builtin; refine wpList_append2 rfl _ _ 22 rfl top 5 u0 (.int .u8 0) 1 1 Tryd.underlying22 hu hu0 hu1 hu2 rfl (by decide) (.slice gq lp.length cq) lp.length (lp.map (Value.int .u8)) rfl HPA5.out.rp ⟨w5.heap.size, 0, none⟩ 1 1 [.int .u8 x] rfl rfl (cell_one_new _ _ _) (by simp [Value.oneCell']) (by unfold maxLen; omega) (by omega) (by rw [World.size_alloc]; omega) (by omega) ?_; intro v' w6 hown6 hgr6 hsp6; have hpp := HUP5.out.lw.pushP ((Mod.refl No w5).alloc _) hxr hown6 hgr6 hsp6; obtain ⟨q6, c6, rfl⟩ := owns_slice hown6; have HUP6 := Lib.hid (HUP5.out.law (s3 := (ls, lp ++ [x])) hpp.1 hpp.2.1 hpp.2.2); have c5 := HXC.out w6 HUP6.out.mod; clear hown6 hgr6 hsp6 hpp)
              have HUPW := HUP6
              have HSH : Hid (Calls Tryd.prog 10 #[.slice q6 (lp.length + 1) c6] w6 fun e w7 => e = .returned (.string (lineT (lp ++ [x]))) ∧ Mod No w6 w7) := by
                have hl9 : 4 * ((lp ++ [x])).length ≤ 140737488355328 := by rw [List.length_append, List.length_singleton]; omega
                have hl8 : ((lp ++ [x])).length ≤ 140737488355328 := by rw [List.length_append, List.length_singleton]; omega
                have h9 := refshow_any q6 (lp ++ [x]) c6 w6 (Byt.ofOwn (by have := HUPW.out.lw.rp; rwa [show (lp ++ [x]).length = lp.length + 1 from by rw [List.length_append, List.length_singleton]] at this) HUPW.out.lw.rng hl8).2.1 hl9
                rw [show (lp ++ [x]).length = lp.length + 1 from by rw [List.length_append, List.length_singleton]] at h9
                exact h9
              go_upto_region 26 with (first
                | (go_at_call 10; refine HSH.out.mono ?_; rintro e w7 ⟨rfl, hm7⟩; have HUP7 := Lib.hid (HUPW.out.no hm7); have hsz7 := HUP7.out.dw.b0; have HPA7 := Lib.hid (HUP7.out.lw.no ((Mod.refl No w7).alloc (.cells #[.string (lineT (lp ++ [x]))] 9))); clear hm7)
                | (at_builtin; refine wpList_append2 rfl _ _ 46 rfl top 9 i0 (.string ⟨#[]⟩) 1 16 Tryd.underlying46 hi0 hz0 hz1 hz2 rfl (by decide) (.slice gw ls.length cw) ls.length (ls.map lineV) rfl HPA7.out.rl ⟨w7.heap.size, 0, none⟩ 1 1 [.string (lineT (lp ++ [x]))] rfl rfl (cell_one_new w7 (.string (lineT (lp ++ [x]))) 9) (by simp [Value.oneCell']) (by unfold maxLen; omega) (by omega) (by rw [World.size_alloc]; omega) (by omega) ?_; intro v8 w8 hown8 hgr8 hsp8; have hpp := HUP7.out.lw.pushL (q := (lp ++ [x])) ((Mod.refl No w7).alloc (.cells #[.string (lineT (lp ++ [x]))] 9)) hown8 hgr8 hsp8; obtain ⟨q8, c8, rfl⟩ := owns_slice hown8; have HUP8 := Lib.hid (HUP7.out.law (s3 := (ls ++ [(lp ++ [x])], [])) hpp.1 hpp.2.1 hpp.2.2); clear hown8 hgr8 hsp8 hpp))
              go_wp2_with fail
              go_roundw
              case rel => exact ⟨k + 1, p + 1, by go_num, by go_num, by omega, by have := HPK.out; omega, by rw [HR.out]; exact HUP8.out⟩
              case measure => simp [intOf]; omega
            · have HR : Hid (comesR s (bs.take (k + 1)) = (ls, lp ++ [x])) := by
                rw [HSN.out]; unfold comeR; rw [if_neg hx10, if_neg h128]; exact rfl
              rw [List.length_append, List.length_singleton] at h128
              have d2 : (((lp.length + 1 : Nat) : Int) == 128) = false := beq_eq_false_iff_ne.2 (by omega)
              have d3 : ((lp.length : Int) + 1 == 128) = false := beq_eq_false_iff_ne.2 (by omega)
              clear hx10 h128
              go_upto_region 24 with (at_builtin; refine wpList_append2 rfl _ _ 22 rfl top 5 u0 (.int .u8 0) 1 1 Tryd.underlying22 hu hu0 hu1 hu2 rfl (by decide) (.slice gq lp.length cq) lp.length (lp.map (Value.int .u8)) rfl HPA5.out.rp ⟨w5.heap.size, 0, none⟩ 1 1 [.int .u8 x] rfl rfl (cell_one_new _ _ _) (by simp [Value.oneCell']) (by unfold maxLen; omega) (by omega) (by rw [World.size_alloc]; omega) (by omega) ?_; intro v' w6 hown6 hgr6 hsp6; have hpp := HUP5.out.lw.pushP ((Mod.refl No w5).alloc _) hxr hown6 hgr6 hsp6; obtain ⟨q6, c6, rfl⟩ := owns_slice hown6; have HUP6 := Lib.hid (HUP5.out.law (s3 := (ls, lp ++ [x])) hpp.1 hpp.2.1 hpp.2.2); have c5 := HXC.out w6 HUP6.out.mod; clear hown6 hgr6 hsp6 hpp)
              go_wp2_with fail
              go_roundw
              case rel => exact ⟨k + 1, p + 1, by go_num, by go_num, by omega, by have := HPK.out; omega, by rw [HR.out]; exact HUP6.out⟩
              case measure => simp [intOf]; omega
        · obtain rfl : k = bs.length := by omega
          have hkn2 : ¬ (bs.length : Int) < (bs.length : Int) := by omega
          rw [List.take_length] at hup
          obtain ⟨P, hP⟩ : ∃ P : Nat, P = p % 65536 := ⟨_, rfl⟩
          have hPr : P < 65536 := by omega
          have hPa : (p : Int) % 256 = (P : Int) % 256 := by omega
          have hPb : (p : Int) / 256 % 256 = (P : Int) / 256 := by omega
          have p0 : (0 : Int) ≤ (p : Int) := by omega
          have z1 : (p : Int).tdiv 256 = (p : Int) / 256 := Int.tdiv_eq_ediv_of_nonneg p0
          have z2 : IntKind.i64.wrap ((p : Int) / 256) = (p : Int) / 256 := IntWalk.i64_in _ (by omega)
          have z3 : (0 : Int) ≤ (p : Int) / 256 := by omega
          have z4 : IntKind.u8.wrap ((p : Int) % 256) = (P : Int) % 256 := by rw [hPa]; exact IntWalk.u8_in _ (by omega)
          have z5 : IntKind.u8.wrap ((p : Int) / 256 % 256) = (P : Int) / 256 := by rw [hPb]; exact IntWalk.u8_in _ (by omega)
          have hup1 := hup.no ((Mod.refl No wr).alloc (.cells #[.int .u8 ((p : Int) % 256), .int .u8 ((p : Int) / 256 % 256)] 5))
          have hrow : (wr.alloc (.cells #[.int .u8 ((p : Int) % 256), .int .u8 ((p : Int) / 256 % 256)] 5)).heap[wr.heap.size]? = some (.cells ((twoB (P : Int)).map (Value.int .u8)).toArray 5 (0, 0)) := by
            rw [show (twoB (P : Int)).map (Value.int .u8) = [.int .u8 ((p : Int) % 256), .int .u8 ((p : Int) / 256 % 256)] by rw [hPa, hPb]; rfl]
            exact heap_alloc_new wr _
          have hW := ub_write hup1 0 (some ⟨wr.heap.size, 0, none⟩) 2 (twoB (P : Int)) (by omega) (by simp [twoB]) (Src.row hrow (twoB_range ⟨by omega, by omega⟩))
          have hE : splice (putB g put bs) (0 : Int).toNat (twoB (P : Int)) = outB g put bs := by
            unfold outB
            rw [hP, hpk]; rfl
          rw [hE] at hW
          have HW := Lib.hid hW
          have HPK := Lib.hid hpk
          have hn0 := HN.out
          have hs0 := HSL.out
          have HDRN : Hid (∀ lv pv wv qv s2 w', UB w B F b base top vk N (outB g put bs) ⟨0, ((put % 65536 : Nat) : Int), 0⟩ lv pv wv qv s s2 w' → Calls Tryd.prog 18 #[.pointer (some ⟨b, 0, none⟩), .pointer (some ⟨vk.V, 0, none⟩)] w' fun e w2 => ∃ lv' pv' N' g', e = .returned (.tuple #[.int .i64 bs.length, .bool false, .int .i64 0]) ∧ (N ≤ N' ∧ N' ≤ N + 3) ∧ g'.length = 256 ∧ UB w B F b base top vk N' g' ⟨0, (((put + bs.length) % 65536 : Nat) : Int), 0⟩ lv' pv' wv qv (comesR s bs) s2 w2) := fun lv pv wv qv s2 w' h => ub_drain h HG.out hb128 ⟨hn0.1, by omega⟩ (by omega)
          have hcl := comesR_lines bs s
          clear hup hup1 hW hE hP hPa hPb hrow hpk z4 z5
          go_wp2_with (first
            | (go_at_call 17; refine HW.out.mono ?_; rintro e w5 ⟨rfl, hup5⟩; have HUP5 := Lib.hid hup5; clear hup5)
            | (go_at_call 18; refine (HDRN.out _ _ _ _ _ _ HUP5.out).mono ?_; rintro e w6 ⟨lv6, pv6, N6, g6, rfl, hN6, hg6, hup6⟩; have HUP6 := Lib.hid hup6; have HN6 := Lib.hid hN6; have HG6 := Lib.hid hg6; clear hup6 hN6 hg6))
          have h1 := HPK.out
          have h2 := HN6.out
          have hput9 := hput
          refine ⟨⟨i + 1, p, g6, N6, lv6, pv6, comesR s bs, rfl, by go_num, by omega, by omega, HG6.out, ⟨by omega, by omega⟩, by omega, ?_⟩, by simp [intOf]; omega⟩
          rw [h1]; exact HUP6.out
    · obtain rfl : i = ps.length := by omega
      have hni : ¬ (ps.length : Int) < (ps.length : Int) := by omega
      obtain ⟨gw, cw, rfl⟩ := owns_slice hup.lw.rl
      obtain ⟨gq, cq, rfl⟩ := owns_slice hup.lw.rp
      have hdw := hup.dw
      have hlw := hup.lw
      have HUP := Lib.hid hup
      have HL : Hid (Calls Tryd.prog 20 #[.pointer (some ⟨b, 0, none⟩)] wr fun e w' => ∃ v, e = .returned v ∧ SlT w' v (s.1.map lineT) ∧ Mod No wr w') := lines_any wr hdw.cw.co hdw.lp (by omega)
      have HT16 : Hid (∀ v w', Mod No wr w' → SlT w' v (s.1.map lineT) → Calls Tryd.prog 19 #[v, .slice gw s.1.length cw] w' fun e w2 => e = .returned (.bool true) ∧ Mod No w' w2) := fun v w' hm hv => texts_same v (.slice gw s.1.length cw) _ w' hv (SlT.own (b0 := top) (by have := (hlw.no hm).rl; rw [lines_map] at this; rwa [List.length_map])) (by rw [List.length_map]; omega)
      have HRE : Hid (∀ w', Mod No wr w' → Calls Tryd.prog 21 #[.pointer (some ⟨b, 0, none⟩)] w' fun e w2 => e = .returned (.string (lineT s.2)) ∧ Mod No w' w2) := fun w' hm => crest_any w' (hdw.no hm).cw.co (hdw.no hm).lp (hdw.no hm).tabs hdw.part
      have HSH : Hid (∀ w', Mod No wr w' → Calls Tryd.prog 10 #[.slice gq s.2.length cq] w' fun e w2 => e = .returned (.string (lineT s.2)) ∧ Mod No w' w2) := fun w' hm => by
        have hpt := hdw.part
        have hl8 : s.2.length ≤ 140737488355328 := by omega
        exact refshow_any gq s.2 cq w' (Byt.ofOwn (hlw.no hm).rp hlw.rng hl8).2.1 (by omega)
      have HAW : Hid (∀ w', Mod No wr w' → Calls Tryd.prog 11 #[] w' fun e w2 => e = .returned (.bool true) ∧ Mod No w' w2) := fun w' hm => awake16_yes w' (hdw.no hm).tabs
      clear hdw hlw hup
      go_wp2_with (first
        | (go_at_call 20; refine HL.out.mono ?_; rintro e w4 ⟨v4, rfl, hv4, hm4⟩; have HM4 := Lib.hid hm4; have HV4 := Lib.hid hv4; clear hm4 hv4)
        | (go_at_call 19; refine (HT16.out v4 w4 HM4.out HV4.out).mono ?_; rintro e w5 ⟨rfl, hm5⟩; have HM5 := Lib.hid (HM4.out.trans hm5); clear hm5)
        | (go_at_call 21; refine (HRE.out _ HM5.out).mono ?_; rintro e w6 ⟨rfl, hm6⟩; have HM6 := Lib.hid (HM5.out.trans hm6); clear hm6)
        | (go_at_call 10; refine (HSH.out _ HM6.out).mono ?_; rintro e w7 ⟨rfl, hm7⟩; have HM7 := Lib.hid (HM6.out.trans hm7); clear hm7)
        | (go_at_call 11; refine (HAW.out _ HM7.out).mono ?_; rintro e w8 ⟨rfl, hm8⟩; have HM8 := Lib.hid (HM7.out.trans hm8); clear hm8))
      go_ret
      exact ⟨rfl, HUP.out.mod.trans HM8.out⟩

end Go.Proofs.YtmdeljacbekbpaaDoor
