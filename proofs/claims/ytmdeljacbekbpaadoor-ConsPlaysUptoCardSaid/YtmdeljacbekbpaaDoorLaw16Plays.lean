/- tenementlaw16.ConsPlays: the walk. (Printed by wip/gen_plays16.py.) -/
import Derived.Test.YtmdeljacbekbpaaDoorLaw16Play
import Derived.Test.YtmdeljacbekbpaaDoorConsLines
import Derived.StillTailTactics
import Derived.RegionCalls
namespace Go.Proofs.YtmdeljacbekbpaaDoor
open Go.RowKit
set_option maxRecDepth 100000

theorem cnew_in (m : Int) (w : World) (h : 0 ≤ m ∧ m < 256) : Calls Tryd.prog 13 #[.int .i64 m] w fun e w' => e = .returned (.tuple #[.pointer (some ⟨w.heap.size, 0, none⟩), .int .i64 0]) ∧ Mod No w w' ∧ CoM w' w.heap.size ⟨m, 0, 0⟩ (.slice none 0 0) (.slice none 0 0) := by
  have d1 : decide (m < 0) = false := decide_eq_false (by omega)
  have d2 : decide (256 ≤ m) = false := decide_eq_false (by omega)
  go_enter Tryd.func13, Tryd.ntmps13
  go_wp2
  go_ret2
  exact ⟨rfl, (Mod.refl No w).alloc _, heap_alloc_new w _⟩
theorem cnew_out (m : Int) (w : World) (h : m < 0 ∨ 256 ≤ m) : Calls Tryd.prog 13 #[.int .i64 m] w fun e w' => e = .returned (.tuple #[.pointer none, .int .i64 1]) ∧ w = w' := by
  by_cases c : m < 0
  · have d1 : decide (m < 0) = true := decide_eq_true c
    go_enter Tryd.func13, Tryd.ntmps13
    go_wp2
    go_ret2
    exact ⟨rfl, rfl⟩
  · have d1 : decide (m < 0) = false := decide_eq_false c
    have d2 : decide (256 ≤ m) = true := decide_eq_true (by omega)
    go_enter Tryd.func13, Tryd.ntmps13
    go_wp2
    go_ret2
    exact ⟨rfl, rfl⟩
theorem cmfn_made {b : Nat} {c : Co} {lv pv : Value} (w : World) (h : CoM w b c lv pv) : Calls Tryd.prog 23 #[.pointer (some ⟨b, 0, none⟩)] w fun e w' => e = .returned (.int .i64 c.mfn) ∧ w = w' := by
  have c0 : w.cell? ⟨b, 0, none⟩ = some (.bool true) := h.at_ 0
  have c1 : w.cell? ⟨b, 1, none⟩ = some (.int .i64 c.mfn) := h.at_ 1
  have HN := Lib.hid (cnone_yes b w c0)
  clear h
  go_enter Tryd.func23, Tryd.ntmps23
  go_wp2_with (go_at_call 38; refine HN.out.mono ?_; rintro e w' ⟨rfl, rfl⟩)
  go_ret
  exact ⟨rfl, rfl⟩

theorem refline_any (q : Option Addr) (bs : List Int) (cap : Nat) (w : World) (hb : Byt w q bs cap) (hl : 4 * bs.length ≤ 140737488355328) :
    Calls Tryd.prog 10 #[.slice q bs.length cap] w fun e w' => e = .returned (.string (lineT bs)) ∧ Mod No w w' := refshow_any q bs cap w hb hl

set_option maxHeartbeats 16000000 in
theorem plays16_any (mfn : Int) (q2 : Option Addr) (ops : List COp) (c2 : Nat) (w : World) (ho : COpS w q2 ops) (hol : ops.length ≤ 1048576) (hT : Lib.Utf8Tabs 0 1 w) :
    Calls Tryd.prog 8 #[.int .i64 mfn, .slice q2 ops.length c2] w fun e w' => e = .returned (.bool true) ∧ Mod No w w' := by
  have HO := Lib.hid ho
  have HT := Lib.hid hT
  have hw1 : 1 < w.heap.size := World.block_lt_of_cell? w _ (hT.2 0 (by omega)).1
  clear ho hT
  go_enter Tryd.func8, Tryd.ntmps8
  go_wp2_with fail
  refine (begin16_any w).mono ?_
  rintro e w1 ⟨B, F, K, rfl, hrd, hB⟩
  have HRD := Lib.hid hrd
  have HBB := Lib.hid hB
  clear hrd hB
  by_cases hm : mfn < 0 ∨ 256 ≤ mfn
  · have HRDE := HRD
    have HLN : Hid (([own1Fr, own1Fr] : List Fr).length = 2) := rfl
    go_wp2_with fail
    refine (cnew_out mfn w1 hm).mono ?_
    rintro e w2 ⟨rfl, rfl⟩
    go_wp2_with fail
    refine (rcnew_out mfn w1 hm).mono ?_
    rintro e w2 ⟨rfl, rfl⟩
    clear hm HBB HO HRD
    generalize ([own1Fr, own1Fr] : List Fr) = S0 at HRDE HLN
    go_wp2_with fail
    go_loopw [12] (fun v wr => v = .int .i64 0 ∧ RoundS w B F 2 0 K S0 wr) (fun _ _ => 0)
    case atStart => exact ⟨rfl, HRDE.out⟩
    case round =>
    clear HRDE
    obtain ⟨rfl, hrde⟩ := hrel
    have HRDE := Lib.hid hrde
    clear hrde
    obtain ⟨f, hf⟩ : ∃ f, S0[0]? = some f := ⟨_, List.getElem?_eq_getElem (by rw [HLN.out]; omega)⟩
    have HRDX := Lib.hid (read_in 0 0 256 f wr HRDE.out.two.p ⟨by rw [HLN.out]; omega, by omega, by omega, by omega⟩ hf)
    have hl := (HRDE.out.two.p.ok f (List.mem_of_getElem? hf)).1
    have HF := Lib.hid hf
    have HAW : Hid (∀ w', Mod No wr w' → Calls Tryd.prog 11 #[] w' fun e w2 => e = .returned (.bool true) ∧ Mod No w' w2) := fun w' hm => awake16_yes w' (tabs_mod HT.out (HRDE.out.mod.trans hm) (fun q => q) (fun q => q))
    clear hf
    go_wp2_with fail
    refine HRDX.out.mono ?_
    rintro e w8 ⟨rfl, hm8, _, hg8⟩
    rw [show (f.bytes.drop (0 : Int).toNat).take (256 : Int).toNat = f.bytes from List.take_of_length_le (by rw [show (f.bytes.drop (0 : Int).toNat) = f.bytes from rfl, hl]; exact Nat.le_refl _)] at hg8
    have HM8 : Hid (Mod No wr (World.drew w8)) := hm8.drew
    have hR9 := HRDE.out.two.r.keptNo HM8.out
    have hg9 : (World.drew w8).heap[(wr).heap.size]? = some (.cells (f.bytes.map (Value.int .u8)).toArray 5 (0, 0)) := hg8
    clear hm8 hg8
    obtain ⟨cB8, hcB8, hB8⟩ := hR9.cB
    obtain ⟨rb, rc, hrc, hbl', hcR, hcx, _⟩ := hR9.cR HF.out
    rw [HLN.out] at hB8 hcB8
    have hv2 := conv_ref (c := rc) hR9 HF.out hcx 0
    have hv1 : (convert 22 9 (.slice (some ⟨(wr).heap.size, 0, none⟩) 256 256)).run Tryd.prog (World.drew w8) = .ok (.string (strOfNums f.bytes)) (World.drew w8) := conv_row hg9 0 256 256 f.bytes (by rw [List.drop_zero, List.take_of_length_le (by omega)]) (by omega)
    have hv3 : (convert 22 9 (.slice (some ⟨rb, 0, none⟩) 256 rc)).run Tryd.prog (World.drew w8) = .ok (.string (strOfNums f.bytes)) (World.drew w8) := hv2
    have es : ((strOfNums f.bytes).toList == (strOfNums f.bytes).toList) = true := beq_self_eq_true _
    clear hR9 hg9 hcx hbl' hl hv2
    generalize strOfNums f.bytes = sf at hv1 hv3 es
    go_wp2_with fail
    refine wp_region_still_tail 15 (by kernel_rfl) (by kernel_rfl) ?_
    change wpStill _ _ (World.drew w8) (fun a' => wpList _ _ _ _ a' (World.drew w8)) _ _
    generalize World.drew w8 = w9 at HM8 hcB8 hB8 hrc hcR hv1 hv3 ⊢
    simp only [List.take_succ_cons, List.take_zero, List.drop_succ_cons, List.drop_zero]
    repeat still_step
    refine wpStill_nil ?_
    go_wp2_with (go_at_call 11; refine (HAW.out _ HM8.out).mono ?_; rintro e wA ⟨rfl, hmA⟩; have HMA := Lib.hid hmA; clear hmA)
    go_ret
    exact ⟨rfl, HRDE.out.mod.trans (HM8.out.trans HMA.out)⟩
  · go_wp2_with fail
    refine (cnew_in mfn w1 (by omega)).mono ?_
    rintro e w2 ⟨rfl, hm2, hk2⟩
    go_wp2_with fail
    refine (rcnew_in mfn w2 (by omega)).mono ?_
    rintro e w3 ⟨rfl, hm3, hk3⟩
    have he : Rest16 w B F K w1.heap.size w2.heap.size [own1Fr, own1Fr] ⟨mfn, 0, 0⟩ (.slice none 0 0) (.slice none 0 0) (.slice none 0 0) (.slice none 0 0) w3.heap.size ([], []) w3 := by
      have hs1 := HRD.out.mod.size
      have hs2 := hm2.size
      have hs3 := hm3.size
      have hF1 := HRD.out.two.p.ltF
      have hF := HRD.out.F
      have hbl := lt_of_blk hk2
      have hcl := lt_of_blk hk3
      have hBl : B < w1.heap.size := by
        obtain ⟨d, _, hc⟩ := HRD.out.two.p.head
        exact lt_of_blk hc
      have hK := HRD.out.two.r.lt
      have hne := HRD.out.two.r.ne_phys HRD.out.two.p
      have hnil : ∀ j, ¬ Own2 (.slice none 0 0) (.slice none 0 0) j := fun j hj => by rcases hj with hj | hj <;> cases hj
      exact ⟨(HRD.out.no hm2).no hm3, hk2.no hm3, LP.nil _ _, hk3, LP.nil _ _, ⟨by simp, by simp⟩, by simp, fun j hj => absurd hj (hnil j),
        ⟨fun j hj => by have := hK j hj; omega, by omega, by omega, ⟨hne.2, fun q => by have := hK _ q; omega, hne.1, fun q => by have := hK _ q; omega⟩, by omega, HRD.out.K⟩, ⟨Nat.le_refl _, by omega⟩, HT.out⟩
    have HE := Lib.hid he
    clear he hm2 hm3 hk2 hk3 HRD HBB
    generalize w1.heap.size = b at HE ⊢
    generalize w2.heap.size = c at HE ⊢
    generalize w3.heap.size = b0 at HE
    go_wp2_with fail
    go_loopw [12] (fun v wr => ∃ i : Nat, i ≤ ops.length ∧ v = .int .i64 i ∧ ∃ (S : List Fr) (o : Co) (lv pv rlv rpv : Value) (s : List (List Int) × List Int), o.mfn = mfn ∧ s.1.length ≤ 128 * i ∧ Rest16 w B F K b c S o lv pv rlv rpv b0 s wr) (fun v _ => ops.length - (intOf v).toNat)
    case atStart => exact ⟨0, Nat.zero_le _, rfl, _, _, _, _, _, _, ([], []), rfl, by simp, HE.out⟩
    case round =>
      clear HE
      obtain ⟨i, hi, rfl, S, o, lv, pv, rlv, rpv, s, hmf, hsl, hev⟩ := hrel
      have HEV := Lib.hid hev
      have HMFN := Lib.hid hmf
      have HSL := Lib.hid hsl
      clear hev hmf
      by_cases hlt : i < ops.length
      · have hlt' : (i : Int) < ops.length := by omega
        have b00 : (0 : Int) ≤ i := by omega
        have hls : (s.1.length + 129) * 16 ≤ 140737488355328 := by omega
        obtain ⟨p, hp⟩ : ∃ p, ops[i]? = some p := ⟨_, List.getElem?_eq_getElem hlt⟩
        obtain ⟨sb, so, rfl, _⟩ := HO.out.cellsAt hp
        obtain ⟨_, _, e, _, y0, y1, y2, y3⟩ := (HO.out.kept HEV.out.rd.mod).cellsAt hp
        cases e
        have HOK : Hid (p.ok w) := HO.out.ok p (List.mem_of_getElem? hp)
        clear hp hsl
        go_wp2_with fail
        go_region_with (first
          | (go_at_call 25; refine (play16_any p _ (HEV.out.no ((Mod.refl No _).drew)) HOK.out hls).mono ?_; rintro e w4 ⟨rfl, S', o', lv', pv', rlv', rpv', s', hmf', hsl', he4⟩; obtain ⟨gl, cl, rfl⟩ := owns_slice he4.rl.rl; obtain ⟨gq, cq, rfl⟩ := owns_slice he4.rl.rp; have HE4 := Lib.hid he4; have HMF4 := Lib.hid (hmf'.trans HMFN.out); have HSL4 := Lib.hid hsl'; have x34 : w4.cell? ⟨c, 3, none⟩ = some (.slice gl s'.1.length cl) := he4.rc.at_ 3; have x44 : w4.cell? ⟨c, 4, none⟩ = some (.slice gq s'.2.length cq) := he4.rc.at_ 4; clear he4 hmf' hsl')
          | (go_at_call 20; refine (lines_any _ HE4.out.co HE4.out.lp (by have := HSL4.out; have := HSL.out; omega)).mono ?_; rintro e w5 ⟨v5, rfl, hv5, hm5⟩; have HV5 := Lib.hid hv5; have HM5 := Lib.hid hm5; have x35 : w5.cell? ⟨c, 3, none⟩ = some (.slice gl s'.1.length cl) := (HE4.out.rc.no hm5).at_ 3; have x45 : w5.cell? ⟨c, 4, none⟩ = some (.slice gq s'.2.length cq) := (HE4.out.rc.no hm5).at_ 4; clear hv5 hm5)
          | (go_at_call 19; refine (texts_same v5 (.slice gl s'.1.length cl) (s'.1.map lineT) _ HV5.out (SlT.own (b0 := b0) (by have := (HE4.out.rl.no HM5.out).rl; rw [lines_map] at this; rwa [List.length_map])) (by rw [List.length_map]; have := HSL4.out; have := HSL.out; omega)).mono ?_; rintro e w6 ⟨rfl, hm6⟩; have HM6 := Lib.hid (HM5.out.trans hm6); have x46 : w6.cell? ⟨c, 4, none⟩ = some (.slice gq s'.2.length cq) := (HE4.out.rc.no HM6.out).at_ 4; clear hm6)
          | (go_at_call 21; refine (crest_any _ (HE4.out.no HM6.out).co (HE4.out.no HM6.out).lp (tabs_mod HT.out (HE4.out.no HM6.out).rd.mod (fun q => q) (fun q => q)) HE4.out.part).mono ?_; rintro e w7 ⟨rfl, hm7⟩; have HM7 := Lib.hid (HM6.out.trans hm7); have x47 : w7.cell? ⟨c, 4, none⟩ = some (.slice gq s'.2.length cq) := (HE4.out.rc.no HM7.out).at_ 4; clear hm7)
          | (go_at_call 10; have hpt := HE4.out.part; have hl8 : s'.2.length ≤ 140737488355328 := (by omega); refine (refline_any gq s'.2 cq _ (Byt.ofOwn (HE4.out.rl.no HM7.out).rp HE4.out.rl.rng hl8).2.1 (by omega)).mono ?_; rintro e w8 ⟨rfl, hm8⟩; have HM8 := Lib.hid (HM7.out.trans hm8); clear hm8 hpt hl8)
          | (go_at_call 23; have hq := cmfn_made _ (HE4.out.co.no HM8.out); rw [HMF4.out] at hq; refine hq.mono ?_; clear hq; rintro e w' ⟨rfl, rfl⟩))
        all_goals
          go_wp2
          go_roundw
          case rel => exact ⟨i + 1, by omega, by go_num, S', o', lv', pv', _, _, s', HMF4.out, by have := HSL4.out; have := HSL.out; omega, HE4.out.no HM8.out⟩
          case measure => simp [intOf]; omega
      · obtain rfl : i = ops.length := by omega
        have hni : ¬ (ops.length : Int) < (ops.length : Int) := by omega
        have HRDE := Lib.hid HEV.out.rd
        have HLN := Lib.hid HEV.out.rd.len
        clear hsl HSL HMFN HEV
        obtain ⟨f, hf⟩ : ∃ f, S[0]? = some f := ⟨_, List.getElem?_eq_getElem (by rw [HLN.out]; omega)⟩
        have HRDX := Lib.hid (read_in 0 0 256 f wr HRDE.out.two.p ⟨by rw [HLN.out]; omega, by omega, by omega, by omega⟩ hf)
        have hl := (HRDE.out.two.p.ok f (List.mem_of_getElem? hf)).1
        have HF := Lib.hid hf
        have HAW : Hid (∀ w', Mod No wr w' → Calls Tryd.prog 11 #[] w' fun e w2 => e = .returned (.bool true) ∧ Mod No w' w2) := fun w' hm => awake16_yes w' (tabs_mod HT.out (HRDE.out.mod.trans hm) (fun q => q) (fun q => q))
        clear hf
        go_wp2_with fail
        refine HRDX.out.mono ?_
        rintro e w8 ⟨rfl, hm8, _, hg8⟩
        rw [show (f.bytes.drop (0 : Int).toNat).take (256 : Int).toNat = f.bytes from List.take_of_length_le (by rw [show (f.bytes.drop (0 : Int).toNat) = f.bytes from rfl, hl]; exact Nat.le_refl _)] at hg8
        have HM8 : Hid (Mod No wr (World.drew w8)) := hm8.drew
        have hR9 := HRDE.out.two.r.keptNo HM8.out
        have hg9 : (World.drew w8).heap[(wr).heap.size]? = some (.cells (f.bytes.map (Value.int .u8)).toArray 5 (0, 0)) := hg8
        clear hm8 hg8
        obtain ⟨cB8, hcB8, hB8⟩ := hR9.cB
        obtain ⟨rb, rc, hrc, hbl', hcR, hcx, _⟩ := hR9.cR HF.out
        rw [HLN.out] at hB8 hcB8
        have hv2 := conv_ref (c := rc) hR9 HF.out hcx 0
        have hv1 : (convert 22 9 (.slice (some ⟨(wr).heap.size, 0, none⟩) 256 256)).run Tryd.prog (World.drew w8) = .ok (.string (strOfNums f.bytes)) (World.drew w8) := conv_row hg9 0 256 256 f.bytes (by rw [List.drop_zero, List.take_of_length_le (by omega)]) (by omega)
        have hv3 : (convert 22 9 (.slice (some ⟨rb, 0, none⟩) 256 rc)).run Tryd.prog (World.drew w8) = .ok (.string (strOfNums f.bytes)) (World.drew w8) := hv2
        have es : ((strOfNums f.bytes).toList == (strOfNums f.bytes).toList) = true := beq_self_eq_true _
        clear hR9 hg9 hcx hbl' hl hv2
        generalize strOfNums f.bytes = sf at hv1 hv3 es
        go_wp2_with fail
        refine wp_region_still_tail 15 (by kernel_rfl) (by kernel_rfl) ?_
        change wpStill _ _ (World.drew w8) (fun a' => wpList _ _ _ _ a' (World.drew w8)) _ _
        generalize World.drew w8 = w9 at HM8 hcB8 hB8 hrc hcR hv1 hv3 ⊢
        simp only [List.take_succ_cons, List.take_zero, List.drop_succ_cons, List.drop_zero]
        repeat still_step
        refine wpStill_nil ?_
        go_wp2_with (go_at_call 11; refine (HAW.out _ HM8.out).mono ?_; rintro e wA ⟨rfl, hmA⟩; have HMA := Lib.hid hmA; clear hmA)
        go_ret
        exact ⟨rfl, HRDE.out.mod.trans (HM8.out.trans HMA.out)⟩
end Go.Proofs.YtmdeljacbekbpaaDoor
