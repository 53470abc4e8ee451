/- tenementlaw01.play: Alloc, Read, Write; all. -/
import Derived.Test.YthfkpbfapkpnfabPlay
namespace Go.Proofs.Ythfkpbfapkpnfab
open Go.RowKit
set_option maxRecDepth 100000

set_option maxHeartbeats 4000000 in
theorem play_alloc {B F m : Nat} {K : RfK} {S : List Fr} (a b c : Int) (q : Option Addr) (n cap : Nat) (w : World) (h : Two w B F K m S) :
    Calls Try.prog 30 #[.pointer (some ⟨B, 0, none⟩), .pointer (some ⟨K.R, 0, none⟩), .agg #[.int .i64 0, .int .i64 a, .int .i64 b, .int .i64 c, .slice q n cap]] w fun e w' =>
      e = .returned (.bool true) ∧ TOut B F K (m + 1) S.length w w' := by
  obtain ⟨x, r, S', hl, hI', hPc, hRc⟩ := both_alloc m S a h.inv
  obtain ⟨hP, hR, hI⟩ := h
  have hI2 := hI'.mono (Nat.le_succ m)
  have HPC := Lib.hid hPc
  have HRC := Lib.hid hRc
  clear hPc hRc
  have hbx : OpBox (w.alloc (.cells #[.int .i64 0, .int .i64 a, .int .i64 b, .int .i64 c, .slice q n cap] 54)) w.heap.size 0 a b c q n cap := heap_alloc_new _ _
  have hP1 := hP.alloc (.cells #[.int .i64 0, .int .i64 a, .int .i64 b, .int .i64 c, .slice q n cap] 54)
  have hR1 := hR.alloc (.cells #[.int .i64 0, .int .i64 a, .int .i64 b, .int .i64 c, .slice q n cap] 54)
  have hm1 := (Mod.refl No w).alloc (.cells #[.int .i64 0, .int .i64 a, .int .i64 b, .int .i64 c, .slice q n cap] 54)
  go_enter Try.func30, Try.ntmps30
  go_wp2_with fail
  generalize w.heap.size = bx at hbx ⊢
  generalize (w.alloc (.cells #[.int .i64 0, .int .i64 a, .int .i64 b, .int .i64 c, .slice q n cap] 54)) = w1 at hbx hP1 hR1 hm1 ⊢
  have hS1 := hbx.cells.2.1
  have hnF := hbx.ne hP1
  have HP1 := Lib.hid hP1
  have HR1 := Lib.hid hR1
  have HM0 := Lib.hid hm1
  have HI2 := Lib.hid hI2
  clear hP1 hR1 hm1 hI hI' hI2 hP hR
  refine (HPC.out _ B F HP1.out).mono ?_
  rintro e w2 hpo
  have hre := hpo.1
  subst hre
  have HPO := Lib.hid hpo
  have hS2 : w2.cell? ⟨bx, 1, none⟩ = some (.int .i64 a) := (World.cell?_of_block (w := w1) (hpo.2.1.block bx (lt_of_blk hbx) hnF)).trans hS1
  clear hpo
  go_wp2_with fail
  refine (HRC.out _ K (HR1.out.kept HPO.out.2.1 (fun k hk (e : k = F) => (HR1.out.ne_phys HP1.out).2 (e ▸ hk)))).mono ?_
  rintro e w3 hro
  have hre : e = .returned (.tuple #[.int .i64 x, .int .i64 r]) := hro.choose_spec.1
  subst hre
  have HRO := Lib.hid hro
  clear hro
  go_wp2
  go_ret
  exact ⟨by simp, hl ▸ tout_pr HM0.out HR1.out HPO.out HRO.out HI2.out HP1.out⟩

set_option maxHeartbeats 4000000 in
theorem play_read {B F m : Nat} {K : RfK} {S : List Fr} (a b c : Int) (q : Option Addr) (n cap : Nat) (w : World) (h : Two w B F K m S) :
    Calls Try.prog 30 #[.pointer (some ⟨B, 0, none⟩), .pointer (some ⟨K.R, 0, none⟩), .agg #[.int .i64 5, .int .i64 a, .int .i64 b, .int .i64 c, .slice q n cap]] w fun e w' =>
      e = .returned (.bool true) ∧ TOut B F K (m + 1) S.length w w' := by
  have FIN : Hid (∀ w', Mod No w w' → TOut B F K (m + 1) S.length w w') := fun w' hm =>
    ⟨K, S, rfl, ⟨h.p.kept hm (fun q => q) (fun q => q), h.r.keptNo hm, h.inv.mono (Nat.le_succ m)⟩, K.grew_refl _, Mod.of_no hm⟩
  obtain ⟨hP, hR, hI⟩ := h
  have hbx : OpBox (w.alloc (.cells #[.int .i64 5, .int .i64 a, .int .i64 b, .int .i64 c, .slice q n cap] 54)) w.heap.size 5 a b c q n cap := heap_alloc_new _ _
  have hP1 := hP.alloc (.cells #[.int .i64 5, .int .i64 a, .int .i64 b, .int .i64 c, .slice q n cap] 54)
  have hR1 := hR.alloc (.cells #[.int .i64 5, .int .i64 a, .int .i64 b, .int .i64 c, .slice q n cap] 54)
  have hm1 := (Mod.refl No w).alloc (.cells #[.int .i64 5, .int .i64 a, .int .i64 b, .int .i64 c, .slice q n cap] 54)
  clear hP hR hI
  go_enter Try.func30, Try.ntmps30
  go_wp2_with fail
  generalize w.heap.size = bx at hbx ⊢
  generalize (w.alloc (.cells #[.int .i64 5, .int .i64 a, .int .i64 b, .int .i64 c, .slice q n cap] 54)) = w1 at hbx hP1 hR1 hm1 ⊢
  by_cases hp : InP S a b c
  · have hil : a.toNat < S.length := by have := hp.1; omega
    have hf : S[a.toNat]? = some S[a.toNat] := List.getElem?_eq_getElem hil
    generalize S[a.toNat] = f at hf
    have hok := (hP1.ok f (List.mem_of_getElem? hf)).1
    refine (read_in a b c f _ hP1 hp hf).mono ?_
    rintro e w2 ⟨rfl, hm2, hlt2, hg2⟩
    obtain ⟨_, hs1, hs2, hs3, hs4⟩ := OpBox.cells (show OpBox w2 bx 5 a b c q n cap from hm2.blk hbx (fun q => q))
    have hR2 := hR1.keptNo hm2
    obtain ⟨xs, hxs⟩ : ∃ xs, xs = (f.bytes.drop b.toNat).take c.toNat := ⟨_, rfl⟩
    rw [← hxs] at hg2
    have hxl : xs.length = c.toNat := by have := hp.2; rw [hxs]; simp [hok]; omega
    go_wp2_with fail
    refine (rread_in a b c f _ hR2 hp hf).mono ?_
    rintro e w3 ⟨q3, cap3, rfl, hm3, hown3⟩
    rw [← hxs] at hown3
    have hcv := conv_own hown3
    have hg3 : w3.heap[w1.heap.size]? = some (.cells (xs.map (Value.int .u8)).toArray 5 (0, 0)) := hm3.blk hg2 (fun q => q)
    have hcv2 := conv_row (w := w3) hg3 0 c.toNat c.toNat xs (by rw [List.drop_zero, List.take_of_length_le (by omega)]) (by omega)
    have hmm := (hm1.trans hm2).trans hm3
    clear hown3 hg2 hg3 hxs hP1 hR1 hR2 hm1 hm2 hm3 hbx hs1 hs2 hs3 hs4 hp hok hf hil
    go_wp2
    go_ret
    exact ⟨by simp, FIN.out _ hmm⟩
  · refine (read_out a b c _ hP1 hp).mono ?_
    rintro e w2 ⟨rfl, rfl⟩
    obtain ⟨_, hs1, hs2, hs3, hs4⟩ := hbx.cells
    go_wp2_with fail
    refine (rread_out a b c _ hR1 hp).mono ?_
    rintro e w3 ⟨rfl, rfl⟩
    have hcn : ∀ w, (convert 33 9 (.slice none 0 0)).run Try.prog w = .ok (.string (strOfNums [])) w := fun _ => rfl
    clear hP1 hR1
    go_wp2
    go_ret
    exact ⟨by simp, FIN.out _ hm1⟩

theorem src_own {w : World} {n₀ n : Nat} {q : Option Addr} {cap : Nat} {xs : List Int} (h : w.ownsRow n₀ 5 1 (.slice q n cap) n (xs.map (Value.int .u8))) (hr : ∀ x ∈ xs, 0 ≤ x ∧ x ≤ 255) : Src w q xs := by
  refine ⟨hr, fun h0 => ?_⟩
  have hl := h.1
  simp at hl
  rcases h.2 with ⟨e, h2⟩ | ⟨g, cap, cur, e, hg, hrow, hc, hm, hs, ht⟩
  · omega
  · cases e
    refine ⟨_, rfl, fun j x hj => ?_⟩
    exact h.cells (g := g) rfl j (.int .u8 x) (by simp [hj])

set_option maxHeartbeats 4000000 in
theorem play_write {B F m : Nat} {K : RfK} {S : List Fr} (what a b c : Int) (ad : Addr) (bs : List Int) (cap : Nat) (w : World) (h : Two w B F K m S) (hb : Bts w F K (some ad) cap bs) (hlen : bs.length ≤ 140737488355328) (hwh : what < 0 ∨ 5 < what) :
    Calls Try.prog 30 #[.pointer (some ⟨B, 0, none⟩), .pointer (some ⟨K.R, 0, none⟩), .agg #[.int .i64 what, .int .i64 a, .int .i64 b, .int .i64 c, .slice (some ad) bs.length cap]] w fun e w' =>
      e = .returned (.bool true) ∧ TOut B F K (m + 1) S.length w w' := by
  obtain ⟨i0, hi, hz0, hz1, hz2⟩ := infoU8P
  obtain ⟨r, S', hl, hI', hPc, hRc⟩ := both_write m S a b bs hb.range h.inv
  obtain ⟨hP, hR, hI⟩ := h
  have hI2 := hI'.mono (Nat.le_succ m)
  have HPC := Lib.hid hPc
  have HRC := Lib.hid hRc
  clear hPc hRc
  have e0 : (what == 0) = false := beq_eq_false_iff_ne.2 (by omega)
  have e1 : (what == 1) = false := beq_eq_false_iff_ne.2 (by omega)
  have e2 : (what == 2) = false := beq_eq_false_iff_ne.2 (by omega)
  have e3 : (what == 3) = false := beq_eq_false_iff_ne.2 (by omega)
  have e4 : (what == 4) = false := beq_eq_false_iff_ne.2 (by omega)
  have e5 : (what == 5) = false := beq_eq_false_iff_ne.2 (by omega)
  clear hwh
  have hbx : OpBox (w.alloc (.cells #[.int .i64 what, .int .i64 a, .int .i64 b, .int .i64 c, .slice (some ad) bs.length cap] 54)) w.heap.size what a b c (some ad) bs.length cap := heap_alloc_new _ _
  have hP1 := hP.alloc (.cells #[.int .i64 what, .int .i64 a, .int .i64 b, .int .i64 c, .slice (some ad) bs.length cap] 54)
  have hR1 := hR.alloc (.cells #[.int .i64 what, .int .i64 a, .int .i64 b, .int .i64 c, .slice (some ad) bs.length cap] 54)
  have hm1 := (Mod.refl No w).alloc (.cells #[.int .i64 what, .int .i64 a, .int .i64 b, .int .i64 c, .slice (some ad) bs.length cap] 54)
  go_enter Try.func30, Try.ntmps30
  go_wp2_with fail
  generalize hbb : w.heap.size = bx at hbx ⊢
  generalize (w.alloc (.cells #[.int .i64 what, .int .i64 a, .int .i64 b, .int .i64 c, .slice (some ad) bs.length cap] 54)) = w1 at hbx hP1 hR1 hm1 ⊢
  -- the bytes, in any world behind the first in which nothing old was changed but a frame
  have hsrc : ∀ w', Mod (One F) w1 w' → (0 < bs.length → ∃ b o, ad = ⟨b, o, none⟩ ∧ b ≠ F ∧ ¬ K.has b ∧ ∀ j x, bs[j]? = some x → w'.cell? ⟨b, o + j, none⟩ = some (.int .u8 x)) := by
    intro w' hm h0
    obtain ⟨sb, so, e, n1, n2, hc⟩ := hb.at_ h0
    refine ⟨sb, so, Option.some.inj e, n1, n2, fun j x hj => ?_⟩
    have h1 := hc j x hj
    have hlt := World.block_lt_of_cell? w _ h1
    have h2 := (World.cell?_of_block (w := w) (hm1.block sb hlt (fun q => q))).trans h1
    exact (World.cell?_of_block (w := w1) (hm.block sb (World.block_lt_of_cell? w1 _ h2) n1)).trans h2
  have hcs : ∀ w', Mod No w1 w' → ∀ j u, (bs.map (Value.int .u8))[j]? = some u → w'.cell? (ad.add j) = some u := by
    intro w' hm j u hj
    rw [List.getElem?_map] at hj
    obtain ⟨x, hx, rfl⟩ := Option.map_eq_some_iff.1 hj
    have hjl := (List.getElem?_eq_some_iff.1 hx).1
    obtain ⟨sb, so, rfl, _, _, hc⟩ := hsrc w' (Mod.of_no hm) (by omega)
    rw [Addr.add_lit]
    exact hc j x hx
  have hS1 : (fun w' : World => w'.cell? ⟨bx, 1, none⟩ = some (.int .i64 a) ∧ w'.cell? ⟨bx, 2, none⟩ = some (.int .i64 b) ∧ w'.cell? ⟨bx, 4, none⟩ = some (.slice (some ad) bs.length cap)) w1 := ⟨hbx.cells.2.1, hbx.cells.2.2.1, hbx.cells.2.2.2.2⟩
  have hnF := hbx.ne hP1
  have hnR := hbx.neR hR1
  have hcap := hb.cap
  have HSRC := Lib.hid hsrc
  have HCS := Lib.hid hcs
  have HP1 := Lib.hid hP1
  have HR1 := Lib.hid hR1
  have HNF := Lib.hid hnF
  have HNR := Lib.hid hnR
  have HM0 := Lib.hid hm1
  have HI2 := Lib.hid hI2
  have HBR := Lib.hid hb.range
  have hSA : (fun w' : World => w'.cell? ⟨bx, 1, none⟩ = some (.int .i64 a) ∧ w'.cell? ⟨bx, 2, none⟩ = some (.int .i64 b) ∧ w'.cell? ⟨bx, 4, none⟩ = some (.slice (some ad) bs.length cap)) (w1.alloc (.cells #[] 5)) :=
    ⟨(World.cell?_of_block (w := w1) (((Mod.refl No w1).alloc _).block bx (lt_of_blk hbx) (fun q => q))).trans hS1.1, (World.cell?_of_block (w := w1) (((Mod.refl No w1).alloc _).block bx (lt_of_blk hbx) (fun q => q))).trans hS1.2.1, (World.cell?_of_block (w := w1) (((Mod.refl No w1).alloc _).block bx (lt_of_blk hbx) (fun q => q))).trans hS1.2.2⟩
  clear hbx hP1 hR1 hm1 hnF hnR hI hI' hI2 hP hR hsrc hcs hb
  go_region_held3 (fun w' => w'.cell? ⟨bx, 1, none⟩ = some (.int .i64 a) ∧ w'.cell? ⟨bx, 2, none⟩ = some (.int .i64 b) ∧ w'.cell? ⟨bx, 4, none⟩ = some (.slice (some ad) bs.length cap)) (first | exact hS1 | exact hSA | assumption) (first
    | (refine step_append_own rfl (.tmp 140) (.tmp 142) 33 rfl w1.heap.size 5 i0 (.int .u8 0) 1 1 Try.underlying33 hi hz0 hz1 hz2 rfl (by decide) (.slice (some ⟨w1.heap.size, 0, none⟩) 0 0) 0 [] (by simp [Act.eval]) (own_empty (heap_alloc_new w1 (.cells #[] 5)) (Nat.le_refl _)) ad bs.length cap (bs.map (Value.int .u8)) (by simp [Act.eval]) (by simp) (HCS.out _ (((Mod.refl No w1).alloc _).drew)) (oneCell_u8 _) (by unfold maxLen; omega) (by omega) (by simp) ?_; intro v' w2 hown hgrow; rw [Nat.zero_add, List.nil_append] at hown; obtain ⟨q2, c2, rfl⟩ := owns_slice hown; have hm2 : Mod No w1 w2 := (((Mod.refl No w1).alloc _).drew).grown hgrow (fun j ej hj => by cases ej; exact absurd hj (Nat.lt_irrefl _)); have hS2 : (fun w' : World => w'.cell? ⟨bx, 1, none⟩ = some (.int .i64 a) ∧ w'.cell? ⟨bx, 2, none⟩ = some (.int .i64 b) ∧ w'.cell? ⟨bx, 4, none⟩ = some (.slice (some ad) bs.length cap)) w2 := ⟨(World.cell?_of_block (w := w1) ((fun k hk => hm2.block k hk (fun q => q)) bx (World.block_lt_of_cell? w1 _ hS1.1))).trans hS1.1, (World.cell?_of_block (w := w1) ((fun k hk => hm2.block k hk (fun q => q)) bx (World.block_lt_of_cell? w1 _ hS1.2.1))).trans hS1.2.1, (World.cell?_of_block (w := w1) ((fun k hk => hm2.block k hk (fun q => q)) bx (World.block_lt_of_cell? w1 _ hS1.2.2))).trans hS1.2.2⟩; have HOWN := Lib.hid hown; have HM2 := Lib.hid hm2; clear hown hgrow hm2)
    | (go_at_call 22; refine (HPC.out _ B F q2 c2 (HP1.out.kept HM2.out (fun q => q) (fun q => q)) (src_own HOWN.out HBR.out)).mono ?_; rintro e w3 hpo; have hre := hpo.1; subst hre; have HPO := Lib.hid hpo; have hS3 : (fun w' : World => w'.cell? ⟨bx, 1, none⟩ = some (.int .i64 a) ∧ w'.cell? ⟨bx, 2, none⟩ = some (.int .i64 b) ∧ w'.cell? ⟨bx, 4, none⟩ = some (.slice (some ad) bs.length cap)) w3 := ⟨(World.cell?_of_block (w := w2) (hpo.2.1.block bx (World.block_lt_of_cell? w2 _ hS2.1) HNF.out)).trans hS2.1, (World.cell?_of_block (w := w2) (hpo.2.1.block bx (World.block_lt_of_cell? w2 _ hS2.2.1) HNF.out)).trans hS2.2.1, (World.cell?_of_block (w := w2) (hpo.2.1.block bx (World.block_lt_of_cell? w2 _ hS2.2.2) HNF.out)).trans hS2.2.2⟩; clear hpo)
    | (go_at_call 75; refine (HRC.out _ K (some ad) cap ((HR1.out.keptNo HM2.out).kept HPO.out.2.1 (fun k hk (e : k = F) => (HR1.out.ne_phys HP1.out).2 (e ▸ hk))) (fun h0 => by obtain ⟨sb, so, e, n1, n2, hc⟩ := HSRC.out _ ((Mod.of_no HM2.out).trans HPO.out.2.1) h0; exact ⟨sb, so, congrArg some e, fun q => n2 (RfK.inn_has q), hcap, hc⟩)).mono ?_; rintro e w4 hro; have hre : e = .returned (.int .i64 r) := hro.choose_spec.1; subst hre; have HRO := Lib.hid hro; have hS4 : (fun w' : World => w'.cell? ⟨bx, 1, none⟩ = some (.int .i64 a) ∧ w'.cell? ⟨bx, 2, none⟩ = some (.int .i64 b) ∧ w'.cell? ⟨bx, 4, none⟩ = some (.slice (some ad) bs.length cap)) w4 := ⟨(World.cell?_of_block (w := w3) (hro.choose_spec.2.1.block bx (World.block_lt_of_cell? w3 _ hS3.1) HNR.out)).trans hS3.1, (World.cell?_of_block (w := w3) (hro.choose_spec.2.1.block bx (World.block_lt_of_cell? w3 _ hS3.2.1) HNR.out)).trans hS3.2.1, (World.cell?_of_block (w := w3) (hro.choose_spec.2.1.block bx (World.block_lt_of_cell? w3 _ hS3.2.2) HNR.out)).trans hS3.2.2⟩; clear hro))
  go_wp2
  go_ret
  exact ⟨rfl, hl ▸ tout_pr (HM0.out.trans HM2.out) (HR1.out.keptNo HM2.out) HPO.out HRO.out HI2.out (HP1.out.kept HM2.out (fun q => q) (fun q => q))⟩

end Go.Proofs.Ythfkpbfapkpnfab
