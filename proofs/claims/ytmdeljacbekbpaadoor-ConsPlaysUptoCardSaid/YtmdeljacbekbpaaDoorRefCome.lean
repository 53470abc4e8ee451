/- The document's console in memory; its come. (Printed by wip/gen_rcome.py.) -/
import Derived.Test.YtmdeljacbekbpaaDoorConsCome
import Derived.Test.YtmdeljacbekbpaaDoorRefShow
import Derived.Deep.RegionLaw
namespace Go.Proofs.YtmdeljacbekbpaaDoor
open Go.RowKit Go.Shelf
set_option maxRecDepth 100000

/-- A console of the document's: the same numbers. -/
def Co.rcells (c : Co) (lv pv : Value) : List Value := [.int .i64 c.mfn, .int .u16 c.om, .int .u16 c.im, lv, pv]
def RCoM (w : World) (b : Nat) (c : Co) (lv pv : Value) : Prop := w.heap[b]? = some (.cells (c.rcells lv pv).toArray 72 (0, 0))
theorem RCoM.at_ {w : World} {b : Nat} {c : Co} {lv pv : Value} (h : RCoM w b c lv pv) (j : Nat) : w.cell? ⟨b, j, none⟩ = (c.rcells lv pv)[j]? := row_cell h j
theorem RCoM.free {w : World} {b : Nat} {c : Co} {lv pv : Value} (h : RCoM w b c lv pv) (j : Nat) : w.frozen? ⟨b, j, none⟩ = false := row_free h j
theorem RCoM.kept {Q : Nat → Prop} {w w' : World} {b : Nat} {c : Co} {lv pv : Value} (h : RCoM w b c lv pv) (hm : Mod Q w w') (hq : ¬ Q b) : RCoM w' b c lv pv := hm.blk h hq
theorem RCoM.no {w w' : World} {b : Nat} {c : Co} {lv pv : Value} (h : RCoM w b c lv pv) (hm : Mod No w w') : RCoM w' b c lv pv := h.kept hm (fun q => q)
theorem RCoM.setO {w : World} {b : Nat} {c : Co} {lv pv : Value} (h : RCoM w b c lv pv) (x : Int) : RCoM (w.setCell ⟨b, 1, none⟩ (.int .u16 x)) b { c with om := x } lv pv := row_set h 1 _
theorem RCoM.setI {w : World} {b : Nat} {c : Co} {lv pv : Value} (h : RCoM w b c lv pv) (x : Int) : RCoM (w.setCell ⟨b, 2, none⟩ (.int .u16 x)) b { c with im := x } lv pv := row_set h 2 _
theorem RCoM.setL {w : World} {b : Nat} {c : Co} {lv pv : Value} (h : RCoM w b c lv pv) (x : Value) : RCoM (w.setCell ⟨b, 3, none⟩ x) b c x pv := row_set h 3 _
theorem RCoM.setP {w : World} {b : Nat} {c : Co} {lv pv : Value} (h : RCoM w b c lv pv) (x : Value) : RCoM (w.setCell ⟨b, 4, none⟩ x) b c lv x := row_set h 4 _

/-- What come leaves. -/
def RComePost (b b0 : Nat) (c : Co) (lv pv : Value) (s : List (List Int) × List Int) (w : World) (e : Ending) (w' : World) : Prop :=
  ∃ lv' pv', e = .returned (.tuple #[]) ∧ RCoM w' b c lv' pv' ∧ LP w' b0 lv' pv' s.1 s.2 ∧ Mod (fun i => i = b ∨ Own2 lv pv i) w w' ∧ ∀ j, Own2 lv' pv' j → Own2 lv pv j ∨ w.heap.size ≤ j

set_option maxHeartbeats 8000000 in
theorem rcome_any {b b0 : Nat} {c : Co} {lv pv : Value} {ls : List (List Int)} {p : List Int} (x : Int) (w : World) (h : RCoM w b c lv pv) (hl : LP w b0 lv pv ls p) (hb : b < b0) (hb0 : b0 ≤ w.heap.size)
    (hx : 0 ≤ x ∧ x ≤ 255) (hp : p.length < 128) (hn : (ls.length + 1) * 16 ≤ 140737488355328) :
    Calls Tryd.prog 64 #[.pointer (some ⟨b, 0, none⟩), .int .u8 x] w (RComePost b b0 c lv pv (comeR (ls, p) x) w) := by
  obtain ⟨gl, cl, rfl⟩ := owns_slice hl.rl
  obtain ⟨gp, cp, rfl⟩ := owns_slice hl.rp
  obtain ⟨u0, hu, hu0, hu1, hu2⟩ := info_parts Tryd.infoU8
  obtain ⟨i0, hi, hz0, hz1, hz2⟩ := info_parts Tryd.infoStr
  have c12 : w.cell? ⟨b, 3, none⟩ = some (.slice gl ls.length cl) := h.at_ 3
  have c13 : w.cell? ⟨b, 4, none⟩ = some (.slice gp p.length cp) := h.at_ 4
  have f13 := h.free 4
  have HH := Lib.hid h
  have HLP := Lib.hid hl
  clear h
  by_cases hx10 : x = 10
  · have d0 : (x == 10) = true := beq_iff_eq.2 hx10
    have d9 : (x != 10) = false := by rw [hx10]; rfl
    have hR : comeR (ls, p) x = (ls ++ [p], []) := by unfold comeR; rw [if_pos hx10]
    rw [hR]
    clear hR
    clear hx10
    have HCO := HH
    have HLPW := HLP
    have HMW : Hid (Mod (fun i => i = b ∨ Own2 (.slice gl ls.length cl) (.slice gp p.length cp) i) w w) := Mod.refl _ _
    have HNW : Hid (∀ j, Own2 (.slice gl ls.length cl) (.slice gp p.length cp) j → Own2 (.slice gl ls.length cl) (.slice gp p.length cp) j ∨ w.heap.size ≤ j) := fun j hj => .inl hj
    go_enter Tryd.func64, Tryd.ntmps64
    go_upto_region 3 with (fail)
    have c13W : (w).cell? ⟨b, 4, none⟩ = some (.slice gp p.length cp) := HCO.out.at_ 4
    have c12W : (w).cell? ⟨b, 3, none⟩ = some (.slice gl ls.length cl) := HCO.out.at_ 3
    have hszW := HMW.out.size
    have HSH : Hid (∀ w', Mod No w w' → Calls Tryd.prog 10 #[.slice gp p.length cp] w' fun e w2 => e = .returned (.string (lineT p)) ∧ Mod No w' w2) := fun w' hm => by
      have hl2 := HLPW.out.no hm
      have hby := (Byt.ofOwn hl2.rp hl2.rng (by omega)).2.1
      have h9 := refshow_any gp p cp w' hby (by omega)
      refine h9.mono ?_
      rintro e w2 ⟨rfl, hb2⟩
      exact ⟨rfl, hb2⟩
    clear c12 c13
    go_region_law (first
      | (refine step_append2 rfl (.tmp 30) (.tmp 36) 46 rfl b0 9 i0 (.string ⟨#[]⟩) 1 16 Tryd.underlying46 hi hz0 hz1 hz2 rfl (by decide) (.slice gl ls.length cl) ls.length (ls.map lineV) (by simp [Act.eval]) ((HL7.out.no ((Mod.refl No w7).alloc (.cells #[.string (lineT p)] 9))).rl) ⟨w7.heap.size, 0, none⟩ 1 1 [.string (lineT p)] (by simp [Act.eval]) rfl (cell_one_new w7 (.string (lineT p)) 9) (by simp [Value.oneCell']) (by unfold maxLen; omega) (by omega) (by rw [World.size_alloc]; omega) (by omega) ?_; intro v8 w8 hown8 hgr8 hsp8; have HPP := Lib.hid (HL7.out.pushL (q := p) ((Mod.refl No w7).alloc (.cells #[.string (lineT p)] 9)) hown8 hgr8 hsp8); obtain ⟨q8, c8, rfl⟩ := owns_slice hown8; have HC8 := Lib.hid (HC7.out.kept HPP.out.2.1 (fun q => by have := (HL7.out.low q).1; omega)); have f12 := HC8.out.free 3; have c128 : w8.cell? ⟨b, 3, none⟩ = some (.slice gl ls.length cl) := HC8.out.at_ 3; clear hown8 hgr8 hsp8)
      | (go_simp; go_at_call 10; refine (HSH.out _ (Mod.refl No w).drew).mono ?_; rintro e w7 ⟨rfl, hm7⟩; have HM7 : Hid (Mod No w w7) := (Mod.refl No w).drew.trans hm7; have HC7 := Lib.hid (HCO.out.no HM7.out); have c127 : w7.cell? ⟨b, 3, none⟩ = some (.slice gl ls.length cl) := HC7.out.at_ 3; have c127a : (w7.alloc (.cells #[.string (lineT p)] 9)).cell? ⟨b, 3, none⟩ = some (.slice gl ls.length cl) := (HC7.out.no ((Mod.refl No w7).alloc (.cells #[.string (lineT p)] 9))).at_ 3; have HL7 := Lib.hid (HLPW.out.no HM7.out); have hsz7 := HM7.out.size; clear hm7))
    all_goals (
      have HC9 := Lib.hid (HC8.out.setL (.slice q8 (ls.length + 1) c8))
      have HM9 : Hid (Mod (One b) w8 (w8.setCell ⟨b, 3, none⟩ (.slice q8 (ls.length + 1) c8))) := (Mod.refl _ w8).set1 3 _
      have HL9 := Lib.hid (HPP.out.1.kept HM9.out (fun j hj (q : j = b) => by have := (HPP.out.1.low hj).1; omega))
      generalize w8.setCell ⟨b, 3, none⟩ (.slice q8 (ls.length + 1) c8) = w9 at HC9 HM9 HL9 ⊢
      have c139 : w9.cell? ⟨b, 4, none⟩ = some (.slice gp p.length cp) := HC9.out.at_ 4
      have f139 := HC9.out.free 4
      go_wp2
      go_end0
      have hm9 : Mod (One b) w9 (w9.setCell ⟨b, 4, none⟩ (.slice none 0 0)) := (Mod.refl _ w9).set1 4 _
      refine ⟨_, _, rfl, HC9.out.setP _, HL9.out.kept hm9 (fun j hj (q : j = b) => by have := (HL9.out.low hj).1; omega), ?_, fun j hj => ?_⟩
      · exact (((HMW.out.trans (Mod.of_no HM7.out)).step HPP.out.2.1 (fun i hi q => (HNW.out i q).elim .inr (fun q => absurd hi (Nat.not_lt.2 q)))).step HM9.out (fun i _ (q : i = b) => .inl q)).step hm9 (fun i _ (q : i = b) => .inl q)
      · rcases HPP.out.2.2 j hj with q | q
        · exact HNW.out j q
        · exact .inr (by omega))
  · have d0 : (x == 10) = false := beq_eq_false_iff_ne.2 hx10
    have d9 : (x != 10) = true := bne_iff_ne.2 hx10
    have HPA := Lib.hid (HLP.out.no ((Mod.refl No w).alloc (.cells #[.int .u8 x] 5)))
    by_cases h128 : (p ++ [x]).length = 128
    · have hR : comeR (ls, p) x = (ls ++ [p ++ [x]], []) := by unfold comeR; rw [if_neg hx10, if_pos h128]
      rw [hR]
      clear hR
      rw [List.length_append, List.length_singleton] at h128
      have d1 : (((p.length + 1 : Nat) : Int) == 128) = true := by rw [h128]; rfl
      have d2 : ((p.length : Int) + 1 == 128) = true := beq_iff_eq.2 (by omega)
      clear hx10 h128
      go_enter Tryd.func64, Tryd.ntmps64
      go_upto_region 2 with (at_builtin; refine wpList_append2 rfl _ _ 22 rfl b0 5 u0 (.int .u8 0) 1 1 Tryd.underlying22 hu hu0 hu1 hu2 rfl (by decide) (.slice gp p.length cp) p.length (p.map (Value.int .u8)) rfl HPA.out.rp ⟨w.heap.size, 0, none⟩ 1 1 [.int .u8 x] rfl rfl (cell_one_new _ _ _) (by simp [Value.oneCell']) (by unfold maxLen; omega) (by omega) (by rw [World.size_alloc]; omega) (by omega) ?_; intro v' w5 hown5 hgr5 hsp5; have HPP := Lib.hid (HLP.out.pushP ((Mod.refl No w).alloc _) hx hown5 hgr5 hsp5); obtain ⟨q5, c5, rfl⟩ := owns_slice hown5; have HC5 := Lib.hid (HH.out.kept HPP.out.2.1 (fun q => by have := (HLP.out.low q).1; omega)); have c13 : w5.cell? ⟨b, 4, none⟩ = some (.slice gp p.length cp) := HC5.out.at_ 4; have f13 := HC5.out.free 4; clear hown5 hgr5 hsp5)
      have HCO := Lib.hid (HC5.out.setP (.slice q5 (p.length + 1) c5))
      have HM5 : Hid (Mod (One b) w5 (w5.setCell ⟨b, 4, none⟩ (.slice q5 (p.length + 1) c5))) := (Mod.refl _ w5).set1 4 _
      have HLPW := Lib.hid (HPP.out.1.kept HM5.out (fun j hj (q : j = b) => by have := (HPP.out.1.low hj).1; omega))
      have HMW : Hid (Mod (fun i => i = b ∨ Own2 (.slice gl ls.length cl) (.slice gp p.length cp) i) w (w5.setCell ⟨b, 4, none⟩ (.slice q5 (p.length + 1) c5))) := (HPP.out.2.1.mono (fun _ _ q => .inr q)).trans (HM5.out.mono (fun _ _ (q : _ = b) => .inl q))
      have HNW := Lib.hid HPP.out.2.2
      clear c13 f13 HM5 HC5 HPP HPA
      generalize w5.setCell ⟨b, 4, none⟩ (.slice q5 (p.length + 1) c5) = w6 at HCO HLPW HMW ⊢
      have c12 : w6.cell? ⟨b, 3, none⟩ = some (.slice gl ls.length cl) := HCO.out.at_ 3
      have c13 : w6.cell? ⟨b, 4, none⟩ = some (.slice q5 (p.length + 1) c5) := HCO.out.at_ 4
      go_upto_region 3 with (fail)
      have c13W : (w6).cell? ⟨b, 4, none⟩ = some (.slice q5 (p.length + 1) c5) := HCO.out.at_ 4
      have c12W : (w6).cell? ⟨b, 3, none⟩ = some (.slice gl ls.length cl) := HCO.out.at_ 3
      have hszW := HMW.out.size
      have HSH : Hid (∀ w', Mod No w6 w' → Calls Tryd.prog 10 #[.slice q5 (p.length + 1) c5] w' fun e w2 => e = .returned (.string (lineT (p ++ [x]))) ∧ Mod No w' w2) := fun w' hm => by
        have hl2 := HLPW.out.no hm
        have hby := (Byt.ofOwn (by have := hl2.rp; rwa [show (p ++ [x]).length = p.length + 1 from by rw [List.length_append, List.length_singleton]] at this) hl2.rng (by rw [List.length_append, List.length_singleton]; omega)).2.1
        have h9 := refshow_any q5 (p ++ [x]) c5 w' hby (by rw [List.length_append, List.length_singleton]; omega)
        rw [show (p ++ [x]).length = p.length + 1 from by rw [List.length_append, List.length_singleton]] at h9
        refine h9.mono ?_
        rintro e w2 ⟨rfl, hb2⟩
        exact ⟨rfl, hb2⟩
      clear c12 c13
      go_region_law (first
        | (refine step_append2 rfl (.tmp 30) (.tmp 36) 46 rfl b0 9 i0 (.string ⟨#[]⟩) 1 16 Tryd.underlying46 hi hz0 hz1 hz2 rfl (by decide) (.slice gl ls.length cl) ls.length (ls.map lineV) (by simp [Act.eval]) ((HL7.out.no ((Mod.refl No w7).alloc (.cells #[.string (lineT (p ++ [x]))] 9))).rl) ⟨w7.heap.size, 0, none⟩ 1 1 [.string (lineT (p ++ [x]))] (by simp [Act.eval]) rfl (cell_one_new w7 (.string (lineT (p ++ [x]))) 9) (by simp [Value.oneCell']) (by unfold maxLen; omega) (by omega) (by rw [World.size_alloc]; omega) (by omega) ?_; intro v8 w8 hown8 hgr8 hsp8; have HPP := Lib.hid (HL7.out.pushL (q := (p ++ [x])) ((Mod.refl No w7).alloc (.cells #[.string (lineT (p ++ [x]))] 9)) hown8 hgr8 hsp8); obtain ⟨q8, c8, rfl⟩ := owns_slice hown8; have HC8 := Lib.hid (HC7.out.kept HPP.out.2.1 (fun q => by have := (HL7.out.low q).1; omega)); have f12 := HC8.out.free 3; have c128 : w8.cell? ⟨b, 3, none⟩ = some (.slice gl ls.length cl) := HC8.out.at_ 3; clear hown8 hgr8 hsp8)
        | (go_simp; go_at_call 10; refine (HSH.out _ (Mod.refl No w6).drew).mono ?_; rintro e w7 ⟨rfl, hm7⟩; have HM7 : Hid (Mod No w6 w7) := (Mod.refl No w6).drew.trans hm7; have HC7 := Lib.hid (HCO.out.no HM7.out); have c127 : w7.cell? ⟨b, 3, none⟩ = some (.slice gl ls.length cl) := HC7.out.at_ 3; have c127a : (w7.alloc (.cells #[.string (lineT (p ++ [x]))] 9)).cell? ⟨b, 3, none⟩ = some (.slice gl ls.length cl) := (HC7.out.no ((Mod.refl No w7).alloc (.cells #[.string (lineT (p ++ [x]))] 9))).at_ 3; have HL7 := Lib.hid (HLPW.out.no HM7.out); have hsz7 := HM7.out.size; clear hm7))
      all_goals (
        have HC9 := Lib.hid (HC8.out.setL (.slice q8 (ls.length + 1) c8))
        have HM9 : Hid (Mod (One b) w8 (w8.setCell ⟨b, 3, none⟩ (.slice q8 (ls.length + 1) c8))) := (Mod.refl _ w8).set1 3 _
        have HL9 := Lib.hid (HPP.out.1.kept HM9.out (fun j hj (q : j = b) => by have := (HPP.out.1.low hj).1; omega))
        generalize w8.setCell ⟨b, 3, none⟩ (.slice q8 (ls.length + 1) c8) = w9 at HC9 HM9 HL9 ⊢
        have c139 : w9.cell? ⟨b, 4, none⟩ = some (.slice q5 (p.length + 1) c5) := HC9.out.at_ 4
        have f139 := HC9.out.free 4
        go_wp2
        go_end0
        have hm9 : Mod (One b) w9 (w9.setCell ⟨b, 4, none⟩ (.slice none 0 0)) := (Mod.refl _ w9).set1 4 _
        refine ⟨_, _, rfl, HC9.out.setP _, HL9.out.kept hm9 (fun j hj (q : j = b) => by have := (HL9.out.low hj).1; omega), ?_, fun j hj => ?_⟩
        · exact (((HMW.out.trans (Mod.of_no HM7.out)).step HPP.out.2.1 (fun i hi q => (HNW.out i q).elim .inr (fun q => absurd hi (Nat.not_lt.2 q)))).step HM9.out (fun i _ (q : i = b) => .inl q)).step hm9 (fun i _ (q : i = b) => .inl q)
        · rcases HPP.out.2.2 j hj with q | q
          · exact HNW.out j q
          · exact .inr (by omega))
    · have hR : comeR (ls, p) x = (ls, p ++ [x]) := by unfold comeR; rw [if_neg hx10, if_neg h128]
      rw [hR]
      clear hR
      rw [List.length_append, List.length_singleton] at h128
      have d1 : (((p.length + 1 : Nat) : Int) == 128) = false := beq_eq_false_iff_ne.2 (by omega)
      have d2 : ((p.length : Int) + 1 == 128) = false := beq_eq_false_iff_ne.2 (by omega)
      clear hx10 h128
      go_enter Tryd.func64, Tryd.ntmps64
      go_upto_region 2 with (at_builtin; refine wpList_append2 rfl _ _ 22 rfl b0 5 u0 (.int .u8 0) 1 1 Tryd.underlying22 hu hu0 hu1 hu2 rfl (by decide) (.slice gp p.length cp) p.length (p.map (Value.int .u8)) rfl HPA.out.rp ⟨w.heap.size, 0, none⟩ 1 1 [.int .u8 x] rfl rfl (cell_one_new _ _ _) (by simp [Value.oneCell']) (by unfold maxLen; omega) (by omega) (by rw [World.size_alloc]; omega) (by omega) ?_; intro v' w5 hown5 hgr5 hsp5; have HPP := Lib.hid (HLP.out.pushP ((Mod.refl No w).alloc _) hx hown5 hgr5 hsp5); obtain ⟨q5, c5, rfl⟩ := owns_slice hown5; have HC5 := Lib.hid (HH.out.kept HPP.out.2.1 (fun q => by have := (HLP.out.low q).1; omega)); have c13 : w5.cell? ⟨b, 4, none⟩ = some (.slice gp p.length cp) := HC5.out.at_ 4; have f13 := HC5.out.free 4; clear hown5 hgr5 hsp5)
      have HCO := Lib.hid (HC5.out.setP (.slice q5 (p.length + 1) c5))
      have HM5 : Hid (Mod (One b) w5 (w5.setCell ⟨b, 4, none⟩ (.slice q5 (p.length + 1) c5))) := (Mod.refl _ w5).set1 4 _
      have HLPW := Lib.hid (HPP.out.1.kept HM5.out (fun j hj (q : j = b) => by have := (HPP.out.1.low hj).1; omega))
      have HMW : Hid (Mod (fun i => i = b ∨ Own2 (.slice gl ls.length cl) (.slice gp p.length cp) i) w (w5.setCell ⟨b, 4, none⟩ (.slice q5 (p.length + 1) c5))) := (HPP.out.2.1.mono (fun _ _ q => .inr q)).trans (HM5.out.mono (fun _ _ (q : _ = b) => .inl q))
      have HNW := Lib.hid HPP.out.2.2
      clear c13 f13 HM5 HC5 HPP HPA
      generalize w5.setCell ⟨b, 4, none⟩ (.slice q5 (p.length + 1) c5) = w6 at HCO HLPW HMW ⊢
      have c12 : w6.cell? ⟨b, 3, none⟩ = some (.slice gl ls.length cl) := HCO.out.at_ 3
      have c13 : w6.cell? ⟨b, 4, none⟩ = some (.slice q5 (p.length + 1) c5) := HCO.out.at_ 4
      go_wp2
      go_end0
      exact ⟨_, _, rfl, HCO.out, HLPW.out, HMW.out, HNW.out⟩

end Go.Proofs.YtmdeljacbekbpaaDoor
