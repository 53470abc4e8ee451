/- cons.Console.come: a byte of the guest's. (Printed by wip/gen_come.py.) -/
import Derived.Test.YtmdeljacbekbpaaDoorConsTell2
import Derived.Test.YtmdeljacbekbpaaDoorConsShow
import Derived.Test.YtmdeljacbekbpaaDoorLaw16Shows
import Derived.Deep.RegionLaw
import Derived.Test.YtmdeljacbekbpaaDoorAppOwn
namespace Go.Proofs.YtmdeljacbekbpaaDoor
open Go.RowKit Go.Shelf
set_option maxRecDepth 100000

/-- Lines, and the part of the next one, behind one more byte. -/
def comeR (s : List (List Int) × List Int) (x : Int) : List (List Int) × List Int :=
  if x = 10 then (s.1 ++ [s.2], []) else if (s.2 ++ [x]).length = 128 then (s.1 ++ [s.2 ++ [x]], []) else (s.1, s.2 ++ [x])
def lineT (p : List Int) : ByteArray := ⟨(showR (bytL p)).toArray⟩
def lineV (p : List Int) : Value := .string (lineT p)

/-- The lines' row and the part's. -/
structure LP (w : World) (b0 : Nat) (lv pv : Value) (ls : List (List Int)) (p : List Int) : Prop where
  rl : w.ownsRow b0 9 1 lv ls.length (ls.map lineV)
  rp : w.ownsRow b0 5 1 pv p.length (p.map (Value.int .u8))
  ne : ∀ j, lv.ownBlock = some j → pv.ownBlock ≠ some j
  rng : ∀ x ∈ p, 0 ≤ x ∧ x ≤ 255

def Own2 (lv pv : Value) (j : Nat) : Prop := lv.ownBlock = some j ∨ pv.ownBlock = some j

theorem own_kept {Q : Nat → Prop} {w w' : World} {n₀ : Nat} {e : TypeId} {size : Nat} {v : Value} {k : Nat} {xs : List Value} (h : w.ownsRow n₀ e size v k xs) (hm : Mod Q w w') (hq : ∀ j, v.ownBlock = some j → ¬ Q j) : w'.ownsRow n₀ e size v k xs := by
  refine ⟨h.1, ?_⟩
  rcases h.2 with h2 | ⟨g, cap, cur, hv, hg, hr, r⟩
  · exact .inl h2
  · exact .inr ⟨g, cap, cur, hv, hg, hm.blk hr (hq g (by rw [hv]; rfl)), r⟩
theorem LP.kept {Q : Nat → Prop} {w w' : World} {b0 : Nat} {lv pv : Value} {ls : List (List Int)} {p : List Int} (h : LP w b0 lv pv ls p) (hm : Mod Q w w') (hq : ∀ j, Own2 lv pv j → ¬ Q j) : LP w' b0 lv pv ls p :=
  ⟨own_kept h.rl hm (fun j ej => hq j (.inl ej)), own_kept h.rp hm (fun j ej => hq j (.inr ej)), h.ne, h.rng⟩
theorem LP.no {w w' : World} {b0 : Nat} {lv pv : Value} {ls : List (List Int)} {p : List Int} (h : LP w b0 lv pv ls p) (hm : Mod No w w') : LP w' b0 lv pv ls p := h.kept hm (fun _ _ q => q)
theorem LP.nil (w : World) (b0 : Nat) : LP w b0 (.slice none 0 0) (.slice none 0 0) [] [] :=
  ⟨World.ownsRow_nil _ _ _ _, World.ownsRow_nil _ _ _ _, (fun j ej => by cases ej), by simp⟩
theorem LP.low {w : World} {b0 : Nat} {lv pv : Value} {ls : List (List Int)} {p : List Int} (h : LP w b0 lv pv ls p) {j : Nat} (hj : Own2 lv pv j) : b0 ≤ j ∧ j < w.heap.size := by
  rcases hj with hj | hj
  · exact h.rl.lt j hj
  · exact h.rp.lt j hj
/-- A byte more in the part. -/
theorem LP.pushP {w w1 w' : World} {b0 : Nat} {lv pv v' : Value} {ls : List (List Int)} {p : List Int} {x : Int} (h : LP w b0 lv pv ls p) (hm : Mod No w w1) (hx : 0 ≤ x ∧ x ≤ 255)
    (hown : w'.ownsRow b0 5 1 v' (p.length + 1) (p.map (Value.int .u8) ++ [.int .u8 x])) (hg : w1.grownBy w' pv.ownBlock) (hs : ∀ j, v'.ownBlock = some j → pv.ownBlock = some j ∨ w1.heap.size ≤ j) :
    LP w' b0 lv v' ls (p ++ [x]) ∧ Mod (Own2 lv pv) w w' ∧ ∀ j, Own2 lv v' j → Own2 lv pv j ∨ w.heap.size ≤ j := by
  have hmod : Mod (fun j => pv.ownBlock = some j) w w' := (Mod.of_no hm).grown hg (fun j ej _ => ej)
  have hsz := hm.size
  refine ⟨⟨own_kept h.rl hmod (fun j ej => h.ne j ej), ?_, fun j ej e2 => ?_, fun y hy => ?_⟩, hmod.mono (fun j _ q => .inr q), fun j hj => ?_⟩
  · rw [List.length_append, List.length_singleton, List.map_append, List.map_singleton]; exact hown
  · rcases hs j e2 with q | q
    · exact h.ne j ej q
    · have := h.low (.inl ej); omega
  · rcases List.mem_append.1 hy with q | q
    · exact h.rng y q
    · rw [List.mem_singleton.1 q]; exact hx
  · rcases hj with q | q
    · exact .inl (.inl q)
    · rcases hs j q with q | q
      · exact .inl (.inr q)
      · exact .inr (by omega)
/-- A line more; the next one is begun. -/
theorem LP.pushL {w w1 w' : World} {b0 : Nat} {lv pv v' : Value} {ls : List (List Int)} {p q : List Int} (_h : LP w b0 lv pv ls p) (hm : Mod No w w1)
    (hown : w'.ownsRow b0 9 1 v' (ls.length + 1) (ls.map lineV ++ [lineV q])) (hg : w1.grownBy w' lv.ownBlock) (hs : ∀ j, v'.ownBlock = some j → lv.ownBlock = some j ∨ w1.heap.size ≤ j) :
    LP w' b0 v' (.slice none 0 0) (ls ++ [q]) [] ∧ Mod (Own2 lv pv) w w' ∧ ∀ j, Own2 v' (.slice none 0 0) j → Own2 lv pv j ∨ w.heap.size ≤ j := by
  have hmod : Mod (fun j => lv.ownBlock = some j) w w' := (Mod.of_no hm).grown hg (fun j ej _ => ej)
  have hsz := hm.size
  refine ⟨⟨?_, World.ownsRow_nil _ _ _ _, (fun j ej e2 => by cases e2), by simp⟩, hmod.mono (fun j _ q => .inl q), fun j hj => ?_⟩
  · rw [List.length_append, List.length_singleton, List.map_append, List.map_singleton]; exact hown
  · rcases hj with q | q
    · rcases hs j q with q | q
      · exact .inl (.inl q)
      · exact .inr (by omega)
    · cases q

theorem Tryd.infoStr : (Tryd.prog.info? 9).map (fun i => (i.zero, i.size, i.bytes)) = some (some (.string ⟨#[]⟩), 1, 16) := by kernel_rfl

theorem tabs_mod {Q : Nat → Prop} {w w' : World} (h : Lib.Utf8Tabs 0 1 w) (hm : Mod Q w w') (h0 : ¬ Q 0) (h1 : ¬ Q 1) : Lib.Utf8Tabs 0 1 w' :=
  ⟨fun c hc => (World.cell?_of_block (w := w) (hm.block 0 (World.block_lt_of_cell? w _ (h.1 c hc)) h0)).trans (h.1 c hc), fun i hi => ⟨(World.cell?_of_block (w := w) (hm.block 1 (World.block_lt_of_cell? w _ (h.2 i hi).1) h1)).trans (h.2 i hi).1, (World.cell?_of_block (w := w) (hm.block 1 (World.block_lt_of_cell? w _ (h.2 i hi).2) h1)).trans (h.2 i hi).2⟩⟩

/-- What come leaves. -/
def ComePost (b b0 : Nat) (c : Co) (lv pv : Value) (s : List (List Int) × List Int) (w : World) (e : Ending) (w' : World) : Prop :=
  ∃ lv' pv', e = .returned (.tuple #[]) ∧ CoM w' b c lv' pv' ∧ LP w' b0 lv' pv' s.1 s.2 ∧ Mod (fun i => i = b ∨ Own2 lv pv i) w w' ∧ ∀ j, Own2 lv' pv' j → Own2 lv pv j ∨ w.heap.size ≤ j

set_option maxHeartbeats 8000000 in
theorem come_any {b b0 : Nat} {c : Co} {lv pv : Value} {ls : List (List Int)} {p : List Int} (x : Int) (w : World) (h : CoM w b c lv pv) (hl : LP w b0 lv pv ls p) (hb : 1 < b ∧ b < b0) (hb0 : b0 ≤ w.heap.size) (hT : Lib.Utf8Tabs 0 1 w)
    (hx : 0 ≤ x ∧ x ≤ 255) (hp : p.length < 128) (hn : (ls.length + 1) * 16 ≤ 140737488355328) :
    Calls Tryd.prog 46 #[.pointer (some ⟨b, 0, none⟩), .int .u8 x] w (ComePost b b0 c lv pv (comeR (ls, p) x) w) := by
  obtain ⟨gl, cl, rfl⟩ := owns_slice hl.rl
  obtain ⟨gp, cp, rfl⟩ := owns_slice hl.rp
  obtain ⟨u0, hu, hu0, hu1, hu2⟩ := info_parts Tryd.infoU8
  obtain ⟨i0, hi, hz0, hz1, hz2⟩ := info_parts Tryd.infoStr
  have c12 : w.cell? ⟨b, 12, none⟩ = some (.slice gl ls.length cl) := h.at_ 12
  have c13 : w.cell? ⟨b, 13, none⟩ = some (.slice gp p.length cp) := h.at_ 13
  have f13 := h.free 13
  have HH := Lib.hid h
  have HLP := Lib.hid hl
  have HT := Lib.hid hT
  clear h hT
  by_cases hx10 : x = 10
  · have d0 : (x == 10) = true := beq_iff_eq.2 hx10
    have hR : comeR (ls, p) x = (ls ++ [p], []) := by unfold comeR; rw [if_pos hx10]
    rw [hR]
    clear hR
    clear hx10
    have HCO := HH
    have HLPW := HLP
    have HMW : Hid (Mod (fun i => i = b ∨ Own2 (.slice gl ls.length cl) (.slice gp p.length cp) i) w w) := Mod.refl _ _
    have HNW : Hid (∀ j, Own2 (.slice gl ls.length cl) (.slice gp p.length cp) j → Own2 (.slice gl ls.length cl) (.slice gp p.length cp) j ∨ w.heap.size ≤ j) := fun j hj => .inl hj
    go_enter Tryd.func46, Tryd.ntmps46
    go_upto_region 5 with (fail)
    have c13W : (w).cell? ⟨b, 13, none⟩ = some (.slice gp p.length cp) := HCO.out.at_ 13
    have c12W : (w).cell? ⟨b, 12, none⟩ = some (.slice gl ls.length cl) := HCO.out.at_ 12
    have hszW := HMW.out.size
    have HSH : Hid (∀ w', Mod No w w' → Calls Tryd.prog 9 #[.slice gp p.length cp] w' fun e w2 => e = .returned (.string (lineT p)) ∧ Mod No w' w2) := fun w' hm => by
      have hl2 := HLPW.out.no hm
      have hby := (Byt.ofOwn hl2.rp hl2.rng (by omega)).2.1
      have hT' := tabs_mod HT.out (HMW.out.trans (Mod.of_no hm)) (fun q => q.elim (by omega) (fun q => by have := (HLP.out.low q).1; omega)) (fun q => q.elim (by omega) (fun q => by have := (HLP.out.low q).1; omega))
      have h9 := show_any gp p cp w' hby hT' (by omega)
      refine h9.mono ?_
      rintro e w2 ⟨rfl, hb2⟩
      exact ⟨rfl, Mod.of_below hb2⟩
    clear c12 c13
    go_region_law (first
      | (refine step_append2 rfl (.tmp 30) (.tmp 36) 46 rfl b0 9 i0 (.string ⟨#[]⟩) 1 16 Tryd.underlying46 hi hz0 hz1 hz2 rfl (by decide) (.slice gl ls.length cl) ls.length (ls.map lineV) (by simp [Act.eval]) ((HL7.out.no ((Mod.refl No w7).alloc (.cells #[.string (lineT p)] 9))).rl) ⟨w7.heap.size, 0, none⟩ 1 1 [.string (lineT p)] (by simp [Act.eval]) rfl (cell_one_new w7 (.string (lineT p)) 9) (by simp [Value.oneCell']) (by unfold maxLen; omega) (by omega) (by rw [World.size_alloc]; omega) (by omega) ?_; intro v8 w8 hown8 hgr8 hsp8; have HPP := Lib.hid (HL7.out.pushL (q := p) ((Mod.refl No w7).alloc (.cells #[.string (lineT p)] 9)) hown8 hgr8 hsp8); obtain ⟨q8, c8, rfl⟩ := owns_slice hown8; have HC8 := Lib.hid (HC7.out.kept HPP.out.2.1 (fun q => by have := (HL7.out.low q).1; omega)); have f12 := HC8.out.free 12; have c128 : w8.cell? ⟨b, 12, none⟩ = some (.slice gl ls.length cl) := HC8.out.at_ 12; clear hown8 hgr8 hsp8)
      | (go_simp; go_at_call 9; refine (HSH.out _ (Mod.refl No w).drew).mono ?_; rintro e w7 ⟨rfl, hm7⟩; have HM7 : Hid (Mod No w w7) := (Mod.refl No w).drew.trans hm7; have HC7 := Lib.hid (HCO.out.no HM7.out); have c127 : w7.cell? ⟨b, 12, none⟩ = some (.slice gl ls.length cl) := HC7.out.at_ 12; have c127a : (w7.alloc (.cells #[.string (lineT p)] 9)).cell? ⟨b, 12, none⟩ = some (.slice gl ls.length cl) := (HC7.out.no ((Mod.refl No w7).alloc (.cells #[.string (lineT p)] 9))).at_ 12; have HL7 := Lib.hid (HLPW.out.no HM7.out); have hsz7 := HM7.out.size; clear hm7))
    all_goals (
      have HC9 := Lib.hid (HC8.out.setL (.slice q8 (ls.length + 1) c8))
      have HM9 : Hid (Mod (One b) w8 (w8.setCell ⟨b, 12, none⟩ (.slice q8 (ls.length + 1) c8))) := (Mod.refl _ w8).set1 12 _
      have HL9 := Lib.hid (HPP.out.1.kept HM9.out (fun j hj (q : j = b) => by have := (HPP.out.1.low hj).1; omega))
      generalize w8.setCell ⟨b, 12, none⟩ (.slice q8 (ls.length + 1) c8) = w9 at HC9 HM9 HL9 ⊢
      have c139 : w9.cell? ⟨b, 13, none⟩ = some (.slice gp p.length cp) := HC9.out.at_ 13
      have f139 := HC9.out.free 13
      go_wp2
      go_end0
      have hm9 : Mod (One b) w9 (w9.setCell ⟨b, 13, none⟩ (.slice none 0 0)) := (Mod.refl _ w9).set1 13 _
      refine ⟨_, _, rfl, HC9.out.setP _, HL9.out.kept hm9 (fun j hj (q : j = b) => by have := (HL9.out.low hj).1; omega), ?_, fun j hj => ?_⟩
      · exact (((HMW.out.trans (Mod.of_no HM7.out)).step HPP.out.2.1 (fun i hi q => (HNW.out i q).elim .inr (fun q => absurd hi (Nat.not_lt.2 q)))).step HM9.out (fun i _ (q : i = b) => .inl q)).step hm9 (fun i _ (q : i = b) => .inl q)
      · rcases HPP.out.2.2 j hj with q | q
        · exact HNW.out j q
        · exact .inr (by omega))
  · have d0 : (x == 10) = false := beq_eq_false_iff_ne.2 hx10
    have HPA := Lib.hid (HLP.out.no ((Mod.refl No w).alloc (.cells #[.int .u8 x] 5)))
    by_cases h128 : (p ++ [x]).length = 128
    · have hR : comeR (ls, p) x = (ls ++ [p ++ [x]], []) := by unfold comeR; rw [if_neg hx10, if_pos h128]
      rw [hR]
      clear hR
      rw [List.length_append, List.length_singleton] at h128
      have d1 : (((p.length + 1 : Nat) : Int) == 128) = true := by rw [h128]; rfl
      have d2 : ((p.length : Int) + 1 == 128) = true := beq_iff_eq.2 (by omega)
      clear hx10 h128
      go_enter Tryd.func46, Tryd.ntmps46
      go_upto_region 3 with (at_builtin; refine wpList_append2 rfl _ _ 22 rfl b0 5 u0 (.int .u8 0) 1 1 Tryd.underlying22 hu hu0 hu1 hu2 rfl (by decide) (.slice gp p.length cp) p.length (p.map (Value.int .u8)) rfl HPA.out.rp ⟨w.heap.size, 0, none⟩ 1 1 [.int .u8 x] rfl rfl (cell_one_new _ _ _) (by simp [Value.oneCell']) (by unfold maxLen; omega) (by omega) (by rw [World.size_alloc]; omega) (by omega) ?_; intro v' w5 hown5 hgr5 hsp5; have HPP := Lib.hid (HLP.out.pushP ((Mod.refl No w).alloc _) hx hown5 hgr5 hsp5); obtain ⟨q5, c5, rfl⟩ := owns_slice hown5; have HC5 := Lib.hid (HH.out.kept HPP.out.2.1 (fun q => by have := (HLP.out.low q).1; omega)); have c13 : w5.cell? ⟨b, 13, none⟩ = some (.slice gp p.length cp) := HC5.out.at_ 13; have f13 := HC5.out.free 13; clear hown5 hgr5 hsp5)
      have HCO := Lib.hid (HC5.out.setP (.slice q5 (p.length + 1) c5))
      have HM5 : Hid (Mod (One b) w5 (w5.setCell ⟨b, 13, none⟩ (.slice q5 (p.length + 1) c5))) := (Mod.refl _ w5).set1 13 _
      have HLPW := Lib.hid (HPP.out.1.kept HM5.out (fun j hj (q : j = b) => by have := (HPP.out.1.low hj).1; omega))
      have HMW : Hid (Mod (fun i => i = b ∨ Own2 (.slice gl ls.length cl) (.slice gp p.length cp) i) w (w5.setCell ⟨b, 13, none⟩ (.slice q5 (p.length + 1) c5))) := (HPP.out.2.1.mono (fun _ _ q => .inr q)).trans (HM5.out.mono (fun _ _ (q : _ = b) => .inl q))
      have HNW := Lib.hid HPP.out.2.2
      clear c13 f13 HM5 HC5 HPP HPA
      generalize w5.setCell ⟨b, 13, none⟩ (.slice q5 (p.length + 1) c5) = w6 at HCO HLPW HMW ⊢
      have c12 : w6.cell? ⟨b, 12, none⟩ = some (.slice gl ls.length cl) := HCO.out.at_ 12
      have c13 : w6.cell? ⟨b, 13, none⟩ = some (.slice q5 (p.length + 1) c5) := HCO.out.at_ 13
      go_upto_region 5 with (fail)
      have c13W : (w6).cell? ⟨b, 13, none⟩ = some (.slice q5 (p.length + 1) c5) := HCO.out.at_ 13
      have c12W : (w6).cell? ⟨b, 12, none⟩ = some (.slice gl ls.length cl) := HCO.out.at_ 12
      have hszW := HMW.out.size
      have HSH : Hid (∀ w', Mod No w6 w' → Calls Tryd.prog 9 #[.slice q5 (p.length + 1) c5] w' fun e w2 => e = .returned (.string (lineT (p ++ [x]))) ∧ Mod No w' w2) := fun w' hm => by
        have hl2 := HLPW.out.no hm
        have hby := (Byt.ofOwn (by have := hl2.rp; rwa [show (p ++ [x]).length = p.length + 1 from by rw [List.length_append, List.length_singleton]] at this) hl2.rng (by rw [List.length_append, List.length_singleton]; omega)).2.1
        have hT' := tabs_mod HT.out (HMW.out.trans (Mod.of_no hm)) (fun q => q.elim (by omega) (fun q => by have := (HLP.out.low q).1; omega)) (fun q => q.elim (by omega) (fun q => by have := (HLP.out.low q).1; omega))
        have h9 := show_any q5 (p ++ [x]) c5 w' hby hT' (by rw [List.length_append, List.length_singleton]; omega)
        rw [show (p ++ [x]).length = p.length + 1 from by rw [List.length_append, List.length_singleton]] at h9
        refine h9.mono ?_
        rintro e w2 ⟨rfl, hb2⟩
        exact ⟨rfl, Mod.of_below hb2⟩
      clear c12 c13
      go_region_law (first
        | (refine step_append2 rfl (.tmp 30) (.tmp 36) 46 rfl b0 9 i0 (.string ⟨#[]⟩) 1 16 Tryd.underlying46 hi hz0 hz1 hz2 rfl (by decide) (.slice gl ls.length cl) ls.length (ls.map lineV) (by simp [Act.eval]) ((HL7.out.no ((Mod.refl No w7).alloc (.cells #[.string (lineT (p ++ [x]))] 9))).rl) ⟨w7.heap.size, 0, none⟩ 1 1 [.string (lineT (p ++ [x]))] (by simp [Act.eval]) rfl (cell_one_new w7 (.string (lineT (p ++ [x]))) 9) (by simp [Value.oneCell']) (by unfold maxLen; omega) (by omega) (by rw [World.size_alloc]; omega) (by omega) ?_; intro v8 w8 hown8 hgr8 hsp8; have HPP := Lib.hid (HL7.out.pushL (q := (p ++ [x])) ((Mod.refl No w7).alloc (.cells #[.string (lineT (p ++ [x]))] 9)) hown8 hgr8 hsp8); obtain ⟨q8, c8, rfl⟩ := owns_slice hown8; have HC8 := Lib.hid (HC7.out.kept HPP.out.2.1 (fun q => by have := (HL7.out.low q).1; omega)); have f12 := HC8.out.free 12; have c128 : w8.cell? ⟨b, 12, none⟩ = some (.slice gl ls.length cl) := HC8.out.at_ 12; clear hown8 hgr8 hsp8)
        | (go_simp; go_at_call 9; refine (HSH.out _ (Mod.refl No w6).drew).mono ?_; rintro e w7 ⟨rfl, hm7⟩; have HM7 : Hid (Mod No w6 w7) := (Mod.refl No w6).drew.trans hm7; have HC7 := Lib.hid (HCO.out.no HM7.out); have c127 : w7.cell? ⟨b, 12, none⟩ = some (.slice gl ls.length cl) := HC7.out.at_ 12; have c127a : (w7.alloc (.cells #[.string (lineT (p ++ [x]))] 9)).cell? ⟨b, 12, none⟩ = some (.slice gl ls.length cl) := (HC7.out.no ((Mod.refl No w7).alloc (.cells #[.string (lineT (p ++ [x]))] 9))).at_ 12; have HL7 := Lib.hid (HLPW.out.no HM7.out); have hsz7 := HM7.out.size; clear hm7))
      all_goals (
        have HC9 := Lib.hid (HC8.out.setL (.slice q8 (ls.length + 1) c8))
        have HM9 : Hid (Mod (One b) w8 (w8.setCell ⟨b, 12, none⟩ (.slice q8 (ls.length + 1) c8))) := (Mod.refl _ w8).set1 12 _
        have HL9 := Lib.hid (HPP.out.1.kept HM9.out (fun j hj (q : j = b) => by have := (HPP.out.1.low hj).1; omega))
        generalize w8.setCell ⟨b, 12, none⟩ (.slice q8 (ls.length + 1) c8) = w9 at HC9 HM9 HL9 ⊢
        have c139 : w9.cell? ⟨b, 13, none⟩ = some (.slice q5 (p.length + 1) c5) := HC9.out.at_ 13
        have f139 := HC9.out.free 13
        go_wp2
        go_end0
        have hm9 : Mod (One b) w9 (w9.setCell ⟨b, 13, none⟩ (.slice none 0 0)) := (Mod.refl _ w9).set1 13 _
        refine ⟨_, _, rfl, HC9.out.setP _, HL9.out.kept hm9 (fun j hj (q : j = b) => by have := (HL9.out.low hj).1; omega), ?_, fun j hj => ?_⟩
        · exact (((HMW.out.trans (Mod.of_no HM7.out)).step HPP.out.2.1 (fun i hi q => (HNW.out i q).elim .inr (fun q => absurd hi (Nat.not_lt.2 q)))).step HM9.out (fun i _ (q : i = b) => .inl q)).step hm9 (fun i _ (q : i = b) => .inl q)
        · rcases HPP.out.2.2 j hj with q | q
          · exact HNW.out j q
          · exact .inr (by omega))
    · have hR : comeR (ls, p) x = (ls, p ++ [x]) := by unfold comeR; rw [if_neg hx10, if_neg h128]
      rw [hR]
      clear hR
      rw [List.length_append, List.length_singleton] at h128
      have d1 : (((p.length + 1 : Nat) : Int) == 128) = false := beq_eq_false_iff_ne.2 (by omega)
      have d2 : ((p.length : Int) + 1 == 128) = false := beq_eq_false_iff_ne.2 (by omega)
      clear hx10 h128
      go_enter Tryd.func46, Tryd.ntmps46
      go_upto_region 3 with (at_builtin; refine wpList_append2 rfl _ _ 22 rfl b0 5 u0 (.int .u8 0) 1 1 Tryd.underlying22 hu hu0 hu1 hu2 rfl (by decide) (.slice gp p.length cp) p.length (p.map (Value.int .u8)) rfl HPA.out.rp ⟨w.heap.size, 0, none⟩ 1 1 [.int .u8 x] rfl rfl (cell_one_new _ _ _) (by simp [Value.oneCell']) (by unfold maxLen; omega) (by omega) (by rw [World.size_alloc]; omega) (by omega) ?_; intro v' w5 hown5 hgr5 hsp5; have HPP := Lib.hid (HLP.out.pushP ((Mod.refl No w).alloc _) hx hown5 hgr5 hsp5); obtain ⟨q5, c5, rfl⟩ := owns_slice hown5; have HC5 := Lib.hid (HH.out.kept HPP.out.2.1 (fun q => by have := (HLP.out.low q).1; omega)); have c13 : w5.cell? ⟨b, 13, none⟩ = some (.slice gp p.length cp) := HC5.out.at_ 13; have f13 := HC5.out.free 13; clear hown5 hgr5 hsp5)
      have HCO := Lib.hid (HC5.out.setP (.slice q5 (p.length + 1) c5))
      have HM5 : Hid (Mod (One b) w5 (w5.setCell ⟨b, 13, none⟩ (.slice q5 (p.length + 1) c5))) := (Mod.refl _ w5).set1 13 _
      have HLPW := Lib.hid (HPP.out.1.kept HM5.out (fun j hj (q : j = b) => by have := (HPP.out.1.low hj).1; omega))
      have HMW : Hid (Mod (fun i => i = b ∨ Own2 (.slice gl ls.length cl) (.slice gp p.length cp) i) w (w5.setCell ⟨b, 13, none⟩ (.slice q5 (p.length + 1) c5))) := (HPP.out.2.1.mono (fun _ _ q => .inr q)).trans (HM5.out.mono (fun _ _ (q : _ = b) => .inl q))
      have HNW := Lib.hid HPP.out.2.2
      clear c13 f13 HM5 HC5 HPP HPA
      generalize w5.setCell ⟨b, 13, none⟩ (.slice q5 (p.length + 1) c5) = w6 at HCO HLPW HMW ⊢
      have c12 : w6.cell? ⟨b, 12, none⟩ = some (.slice gl ls.length cl) := HCO.out.at_ 12
      have c13 : w6.cell? ⟨b, 13, none⟩ = some (.slice q5 (p.length + 1) c5) := HCO.out.at_ 13
      go_wp2
      go_end0
      exact ⟨_, _, rfl, HCO.out, HLPW.out, HMW.out, HNW.out⟩

end Go.Proofs.YtmdeljacbekbpaaDoor
