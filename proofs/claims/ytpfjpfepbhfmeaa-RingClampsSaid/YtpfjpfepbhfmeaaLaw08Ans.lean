/- tenementlaw08.play: Answer, and the front's own write. -/
import Derived.Test.YtpfjpfepbhfmeaaLaw08Take
namespace Go.Proofs.Ytpfjpfepbhfmeaa
open Go.RowKit
set_option maxRecDepth 100000

theorem blk_ne_ty {w : World} {a b : Nat} {cs cs' : Array Value} {t t' : TypeId} {z z' : Nat × Nat} (h1 : w.heap[a]? = some (.cells cs t z)) (h2 : w.heap[b]? = some (.cells cs' t' z')) (h : t ≠ t') : a ≠ b := by
  intro e; rw [e, h2] at h1; simp at h1; exact h h1.2.1.symm
theorem OpBox8.neP {w : World} {bx : Nat} {what off : Int} {bq : Option Addr} {bn bc : Nat} {pq : Option Addr} {pn pc : Nat} (h : OpBox8 w bx what off bq bn bc pq pn pc) {B F b base top : Nat} {vk : ViK} {N : Int} {l : List Pk} {S : List Fr} {k : Bk} (hc : CV B F b base top vk N l S k w) : ¬ P3 F vk b bx := by
  obtain ⟨r, hr⟩ := hc.p.row
  rintro (q | q | q)
  · exact blk_ne_ty h hr (by decide) q
  · exact blk_ne_ty h hc.v.head (by decide) q
  · exact blk_ne_ty h hc.bk (by decide) q
theorem OpBox8.neQ {w : World} {bx : Nat} {what off : Int} {bq : Option Addr} {bn bc : Nat} {pq : Option Addr} {pn pc : Nat} (h : OpBox8 w bx what off bq bn bc pq pn pc) {w0 : World} {X : Nat} {K : RfK} {q : Option Addr} {cap : Nat} {l : List Pk} {N : Int} {S : List Fr} {c : Nat} {k : Bk} (hr : RV w0 X K q cap l N S c k w) : ¬ Q3 K X c bx := by
  rintro (q | q | q)
  · exact blk_neK h hr.r (by decide) (by decide) (by decide) (by decide) (RfK.inn_has q)
  · exact blk_ne_ty h hr.x.head (by decide) q
  · exact blk_ne_ty h hr.bk (by decide) q

theorem invS_ans {m : Nat} {S : List Fr} (h : invS m S) (k : Bk) (bs : List Int) : invS m (ansR S k bs) := invS_wrR (invS_wrR h _ _ _) _ _ _
theorem ansR_len (S : List Fr) (k : Bk) (bs : List Int) : (ansR S k bs).length = S.length := by unfold ansR; rw [wrR_len, wrR_len]

/-- Answer, in both. -/
theorem ans_both (S : List Fr) (k : Bk) (bs : List Int) (hr : ∀ x ∈ bs, 0 ≤ x ∧ x ≤ 255) (ho : k.ok) (hI : invS 0 S) : ∃ (r : Int) (S' : List Fr) (k' : Bk), k.Step k' ∧ S'.length = S.length ∧ invS 0 S' ∧
    (∀ w B F b base top vk N l p c, CV B F b base top vk N l S k w → Src w p bs → Calls Try.prog 52 #[.pointer (some ⟨b, 0, none⟩), .pointer (some ⟨vk.V, 0, none⟩), .slice p bs.length c] w fun e w' => e = .returned (.int .i64 r) ∧ CV B F b base top vk N l S' k' w' ∧ Mod (P3 F vk b) w w') ∧
    (∀ w w0 X K q cap l N c p pc, RV w0 X K q cap l N S c k w → (0 < bs.length → ∀ w', Mod No w w' → ∃ b o, p = some ⟨b, o, none⟩ ∧ ¬ K.inn b ∧ bs.length ≤ pc ∧ ∀ j x, bs[j]? = some x → w'.cell? ⟨b, o + j, none⟩ = some (.int .u8 x)) →
      Calls Try.prog 108 #[.pointer (some ⟨c, 0, none⟩), .pointer (some ⟨X, 0, none⟩), .slice p bs.length pc] w fun e w' => e = .returned (.int .i64 r) ∧ RV w0 X K q cap l N S' c k' w' ∧ Mod (Q3 K X c) w w') := by
  by_cases hl : bs.length = 8
  · by_cases hb : k.btw = 0
    · refine ⟨5, S, k, .stay, rfl, hI, fun w B F b base top vk N l p c h _ => ?_, fun w w0 X K q cap l N c p pc h _ => ?_⟩
      · rw [hl]; exact (ans_state p c w h hb).mono fun e w' q => ⟨q.1, h.no q.2, Mod.of_no q.2⟩
      · rw [hl]; exact (rans_state p pc w h.bk ho hb).mono fun e w' q => ⟨q.1, h.no q.2, Mod.of_no q.2⟩
    · refine ⟨0, ansR S k bs, k.laid, .laid hb, ansR_len _ _ _, invS_ans hI _ _, fun w B F b base top vk N l p c h hs => ?_, fun w w0 X K q cap l N c p pc h hs => ?_⟩
      · have := ans_ok p bs c w h hb hl hs
        rw [hl]; exact this
      · have := rans_ok p bs pc w h hb hl hr (hs (by omega))
        rw [hl]; exact this
  · refine ⟨1, S, k, .stay, rfl, hI, fun w B F b base top vk N l p c h _ => ?_, fun w w0 X K q cap l N c p pc h _ => ?_⟩
    · exact (ans_len p bs.length c w h hl).mono fun e w' q => ⟨q.1, h.no q.2, Mod.of_no q.2⟩
    · exact (rans_len p pc w hl).mono fun e w' q => ⟨q.1, h.no q.2, Mod.of_no q.2⟩

set_option maxHeartbeats 8000000 in
theorem play8_ans {w0 : World} {B F b c : Nat} {K : RfK} {S : List Fr} {k : Bk} (off : Int) (ad : Addr) (bs : List Int) (bc : Nat) (pq : Option Addr) (ps : List Pk) (pc : Nat) (w : World) (h : Eight w0 B F K b c S k w) (hps : PkS w0 pq ps) (hl : ps.length ≤ 64) (hb : Byt w0 (some ad) bs bc) :
    Calls Try.prog 57 #[.pointer (some ⟨B, 0, none⟩), .pointer (some ⟨K.R, 0, none⟩), .pointer (some ⟨b, 0, none⟩), .pointer (some ⟨c, 0, none⟩), .agg #[.int .i64 2, .int .i64 off, .slice (some ad) bs.length bc, .slice pq ps.length pc]] w fun e w' => e = .returned (.bool true) ∧ ∃ S' k', k.Step k' ∧ Eight w0 B F K b c S' k' w' := by
  obtain ⟨i0, hi, hz0, hz1, hz2⟩ := infoU8P
  have HBY := Lib.hid hb
  have hblen := hb.len
  clear hb
  have hal : Mod No w (w.alloc (.cells #[.int .i64 2, .int .i64 off, .slice (some ad) bs.length bc, .slice pq ps.length pc] 108)) := (Mod.refl No w).alloc _
  have hbx : OpBox8 (w.alloc (.cells #[.int .i64 2, .int .i64 off, .slice (some ad) bs.length bc, .slice pq ps.length pc] 108)) w.heap.size 2 off (some ad) bs.length bc pq ps.length pc := heap_alloc_new w _
  have h1 := h.no hal
  have HMA := Lib.hid hal
  go_enter Try.func57, Try.ntmps57
  go_upto_region 1 with (fail)
  generalize (w.alloc (.cells #[.int .i64 2, .int .i64 off, .slice (some ad) bs.length bc, .slice pq ps.length pc] 108)) = w1 at hal HMA hbx h1 ⊢
  generalize w.heap.size = bx at hbx ⊢
  obtain ⟨z0, z1, z2, z3⟩ := hbx.cells
  have HBX := Lib.hid hbx
  have H1 := Lib.hid h1
  have HPS := Lib.hid hps
  clear h hbx h1 hps hal
  go_wp2_with fail
  refine (vnew_in pq ps pc w1 H1.out.rd.two.p (HPS.out.kept H1.out.rd.mod) hl).mono ?_
  rintro e w2 ⟨vk, rfl, hm2, hv2⟩
  clear z0 z1 z2 z3
  obtain ⟨z0, z1, z2, z3⟩ := (HBX.out.no hm2).cells
  go_wp2_with fail
  refine (rvnew_in (K := K) pq ps pc w2 hl).mono ?_
  rintro e w3 ⟨X, rfl, hX, hm3, hx3⟩
  have HD := Lib.hid (H1.out.views hm2 hv2 hX hm3 hx3)
  have HBX3 := Lib.hid (HBX.out.no (hm2.trans hm3))
  have HIS : Hid (invS 0 S) := H1.out.rd.two.inv
  have HLS : Hid (S.length = 2) := H1.out.rd.len
  have HM03 : Hid (Mod No w0 w3) := (H1.out.rd.mod.trans hm2).trans hm3
  clear z0 z1 z2 z3 hm2 hm3 hv2 hX hx3
  generalize w1.heap.size = base at HD
  generalize w2.heap.size = top at HD
  obtain ⟨z0, z1, z2, z3⟩ := HBX3.out.cells
  clear H1 HBX
  obtain ⟨r, S', k', hst, hl', hI', hA, hRA⟩ := ans_both S k bs HBY.out.range HD.out.cc.ok HIS.out
  have HST := Lib.hid hst
  have HA := Lib.hid hA
  have HRA := Lib.hid hRA
  have HL1 : Hid (S'.length = 2) := hl'.trans HLS.out
  have HI1 := Lib.hid hI'
  clear hst hl' hI' hA hRA
  have hcs : ∀ w', Mod No w3 w' → ∀ j u, (bs.map (Value.int .u8))[j]? = some u → w'.cell? (ad.add j) = some u := by
    intro w' hm j u hj
    rw [List.getElem?_map] at hj
    obtain ⟨x, hx, rfl⟩ := Option.map_eq_some_iff.1 hj
    have hjl := (List.getElem?_eq_some_iff.1 hx).1
    obtain ⟨sb, so, e, _, hc⟩ := (HBY.out.kept (HM03.out.trans hm)).at_ (by omega)
    cases e
    rw [Addr.add_lit]
    exact hc j x hx
  have HCS := Lib.hid hcs
  have hS1 : (fun w' : World => w'.cell? ⟨bx, 2, none⟩ = some (.slice (some ad) bs.length bc)) w3 := z2
  have hSA : (fun w' : World => w'.cell? ⟨bx, 2, none⟩ = some (.slice (some ad) bs.length bc)) (w3.alloc (.cells #[] 5)) := (HBX3.out.no ((Mod.refl No w3).alloc _)).cells.2.2.1
  clear hcs z1 z2 z3
  go_upto_region 15 with (fail)
  clear z0
  go_region_held3 (fun w' : World => w'.cell? ⟨bx, 2, none⟩ = some (.slice (some ad) bs.length bc)) (first | exact hS1 | exact hSA | assumption) (first
    | (refine step_append_own rfl (.tmp 128) (.tmp 130) 31 rfl w3.heap.size 5 i0 (.int .u8 0) 1 1 Try.underlying31 hi hz0 hz1 hz2 rfl (by decide) (.slice (some ⟨w3.heap.size, 0, none⟩) 0 0) 0 [] (by simp [Act.eval]) (own_empty (heap_alloc_new w3 (.cells #[] 5)) (Nat.le_refl _)) ad bs.length bc (bs.map (Value.int .u8)) (by simp [Act.eval]) (by simp) (HCS.out _ (((Mod.refl No w3).alloc _).drew)) (oneCell_u8 _) (by unfold maxLen; omega) (by omega) (by simp) ?_; intro v' w4 hown hgrow; rw [Nat.zero_add, List.nil_append] at hown; obtain ⟨q4, c4, rfl⟩ := owns_slice hown; have hm4 : Mod No w3 w4 := (((Mod.refl No w3).alloc _).drew).grown hgrow (fun j ej hj => by cases ej; exact absurd hj (Nat.lt_irrefl _)); have hS4 : (fun w' : World => w'.cell? ⟨bx, 2, none⟩ = some (.slice (some ad) bs.length bc)) w4 := (HBX3.out.no hm4).cells.2.2.1; have HOWN := Lib.hid hown; have HM4 := Lib.hid hm4; clear hown hgrow hm4)
    | (go_at_call 52; refine (HA.out _ _ _ _ _ _ _ _ _ _ _ (HD.out.no HM4.out).cc (src_own HOWN.out HBY.out.range)).mono ?_; rintro e w5 ⟨rfl, hc5, hm5⟩; have hS5 : (fun w' : World => w'.cell? ⟨bx, 2, none⟩ = some (.slice (some ad) bs.length bc)) w5 := ((World.cell?_of_block (w := w4) (hm5.block bx (lt_of_blk (HBX3.out.no HM4.out)) ((HBX3.out.no HM4.out).neP (HD.out.no HM4.out).cc))).trans hS4); have HC5 := Lib.hid hc5; have HM5 := Lib.hid hm5; clear hc5 hm5)
    | (go_at_call 108; refine (HRA.out w5 w0 X K pq pc ps 0 c (some ad) bc ((HD.out.no HM4.out).mid HM5.out) (fun h0 w' hm' => by obtain ⟨sb, so, e, hsb, hfit, hcc⟩ := HBY.out.rsrc (((HD.out.no HM4.out).mid HM5.out).mod.trans hm') ((HD.out.no HM4.out).mid HM5.out).K h0; exact ⟨sb, so, e, hsb, hfit, hcc⟩)).mono ?_; rintro e w6 ⟨rfl, hr6, hm6⟩; have hS6 : (fun w' : World => w'.cell? ⟨bx, 2, none⟩ = some (.slice (some ad) bs.length bc)) w6 := ((World.cell?_of_block (w := w5) (hm6.block bx (World.block_lt_of_cell? w5 _ hS5) ((HBX3.out.no HM4.out).neQ (HD.out.no HM4.out).rr))).trans hS5); have HR6 := Lib.hid hr6; have HM6 := Lib.hid hm6; clear hr6 hm6))
  go_wp2
  go_ret
  exact ⟨rfl, S', k', HST.out, ((HD.out.no HM4.out).pair HC5.out HM5.out (Mod.refl No _) HR6.out HM6.out).back HL1.out HI1.out⟩

set_option maxHeartbeats 8000000 in
theorem play8_ans_nil {w0 : World} {B F b c : Nat} {K : RfK} {S : List Fr} {k : Bk} (off : Int) (pq : Option Addr) (ps : List Pk) (pc : Nat) (w : World) (h : Eight w0 B F K b c S k w) (hps : PkS w0 pq ps) (hl : ps.length ≤ 64) :
    Calls Try.prog 57 #[.pointer (some ⟨B, 0, none⟩), .pointer (some ⟨K.R, 0, none⟩), .pointer (some ⟨b, 0, none⟩), .pointer (some ⟨c, 0, none⟩), .agg #[.int .i64 2, .int .i64 off, .slice none 0 0, .slice pq ps.length pc]] w fun e w' => e = .returned (.bool true) ∧ ∃ S' k', k.Step k' ∧ Eight w0 B F K b c S' k' w' := by
  have hal : Mod No w (w.alloc (.cells #[.int .i64 2, .int .i64 off, .slice none 0 0, .slice pq ps.length pc] 108)) := (Mod.refl No w).alloc _
  have hbx : OpBox8 (w.alloc (.cells #[.int .i64 2, .int .i64 off, .slice none 0 0, .slice pq ps.length pc] 108)) w.heap.size 2 off none 0 0 pq ps.length pc := heap_alloc_new w _
  have h1 := h.no hal
  have HMA := Lib.hid hal
  go_enter Try.func57, Try.ntmps57
  go_upto_region 1 with (fail)
  generalize (w.alloc (.cells #[.int .i64 2, .int .i64 off, .slice none 0 0, .slice pq ps.length pc] 108)) = w1 at hal HMA hbx h1 ⊢
  generalize w.heap.size = bx at hbx ⊢
  obtain ⟨z0, z1, z2, z3⟩ := hbx.cells
  have HBX := Lib.hid hbx
  have H1 := Lib.hid h1
  have HPS := Lib.hid hps
  clear h hbx h1 hps hal
  go_wp2_with fail
  refine (vnew_in pq ps pc w1 H1.out.rd.two.p (HPS.out.kept H1.out.rd.mod) hl).mono ?_
  rintro e w2 ⟨vk, rfl, hm2, hv2⟩
  clear z0 z1 z2 z3
  obtain ⟨z0, z1, z2, z3⟩ := (HBX.out.no hm2).cells
  go_wp2_with fail
  refine (rvnew_in (K := K) pq ps pc w2 hl).mono ?_
  rintro e w3 ⟨X, rfl, hX, hm3, hx3⟩
  have HD := Lib.hid (H1.out.views hm2 hv2 hX hm3 hx3)
  have HBX3 := Lib.hid (HBX.out.no (hm2.trans hm3))
  have HIS : Hid (invS 0 S) := H1.out.rd.two.inv
  have HLS : Hid (S.length = 2) := H1.out.rd.len
  have HM03 : Hid (Mod No w0 w3) := (H1.out.rd.mod.trans hm2).trans hm3
  clear z0 z1 z2 z3 hm2 hm3 hv2 hX hx3
  generalize w1.heap.size = base at HD
  generalize w2.heap.size = top at HD
  obtain ⟨z0, z1, z2, z3⟩ := HBX3.out.cells
  clear H1 HBX
  obtain ⟨r, S', k', hst, hl', hI', hA, hRA⟩ := ans_both S k [] (fun x hx => absurd hx (by simp)) HD.out.cc.ok HIS.out
  have HST := Lib.hid hst
  have HA := Lib.hid hA
  have HRA := Lib.hid hRA
  have HL1 : Hid (S'.length = 2) := hl'.trans HLS.out
  have HI1 := Lib.hid hI'
  clear hst hl' hI' hA hRA
  have hS1 : (fun w' : World => w'.cell? ⟨bx, 2, none⟩ = some (.slice none 0 0)) w3 := z2
  have hSA : (fun w' : World => w'.cell? ⟨bx, 2, none⟩ = some (.slice none 0 0)) (w3.alloc (.cells #[] 5)) := (HBX3.out.no ((Mod.refl No w3).alloc _)).cells.2.2.1
  have HM4 : Hid (Mod No w3 (w3.alloc (.cells #[] 5)).drew) := ((Mod.refl No w3).alloc _).drew
  clear z1 z2 z3
  go_upto_region 15 with (fail)
  clear z0
  go_region_held3 (fun w' : World => w'.cell? ⟨bx, 2, none⟩ = some (.slice none 0 0)) (first | exact hS1 | exact hSA | assumption) (first
    | (go_at_call 52; refine (HA.out _ _ _ _ _ _ _ _ _ _ _ (HD.out.no HM4.out).cc (Src.nil _ _)).mono ?_; rintro e w5 ⟨rfl, hc5, hm5⟩; have hS5 : (fun w' : World => w'.cell? ⟨bx, 2, none⟩ = some (.slice none 0 0)) w5 := ((World.cell?_of_block (w := (w3.alloc (.cells #[] 5)).drew) (hm5.block bx (lt_of_blk (HBX3.out.no HM4.out)) ((HBX3.out.no HM4.out).neP (HD.out.no HM4.out).cc))).trans hSA); have HC5 := Lib.hid hc5; have HM5 := Lib.hid hm5; clear hc5 hm5)
    | (go_at_call 108; refine (HRA.out w5 w0 X K pq pc ps 0 c none 0 ((HD.out.no HM4.out).mid HM5.out) (fun h0 => absurd h0 (by simp))).mono ?_; rintro e w6 ⟨rfl, hr6, hm6⟩; have hS6 : (fun w' : World => w'.cell? ⟨bx, 2, none⟩ = some (.slice none 0 0)) w6 := ((World.cell?_of_block (w := w5) (hm6.block bx (World.block_lt_of_cell? w5 _ hS5) ((HBX3.out.no HM4.out).neQ (HD.out.no HM4.out).rr))).trans hS5); have HR6 := Lib.hid hr6; have HM6 := Lib.hid hm6; clear hr6 hm6))
  go_wp2
  go_ret
  exact ⟨rfl, S', k', HST.out, ((HD.out.no HM4.out).pair HC5.out HM5.out (Mod.refl No _) HR6.out HM6.out).back HL1.out HI1.out⟩

set_option maxHeartbeats 8000000 in
theorem play8_write {w0 : World} {B F b c : Nat} {K : RfK} {S : List Fr} {k : Bk} (what off : Int) (bq : Option Addr) (bs : List Int) (bc : Nat) (pq : Option Addr) (ps : List Pk) (pc : Nat) (w : World) (h : Eight w0 B F K b c S k w) (hps : PkS w0 pq ps) (hl : ps.length ≤ 64) (hb : Byt w0 bq bs bc) (hwh : what ≠ 0 ∧ what ≠ 1 ∧ what ≠ 2) :
    Calls Try.prog 57 #[.pointer (some ⟨B, 0, none⟩), .pointer (some ⟨K.R, 0, none⟩), .pointer (some ⟨b, 0, none⟩), .pointer (some ⟨c, 0, none⟩), .agg #[.int .i64 what, .int .i64 off, .slice bq bs.length bc, .slice pq ps.length pc]] w fun e w' => e = .returned (.bool true) ∧ ∃ S' k', k.Step k' ∧ Eight w0 B F K b c S' k' w' := by
  have HBY := Lib.hid hb
  have e0 : (what == 0) = false := beq_eq_false_iff_ne.2 hwh.1
  have e1 : (what == 1) = false := beq_eq_false_iff_ne.2 hwh.2.1
  have e2 : (what == 2) = false := beq_eq_false_iff_ne.2 hwh.2.2
  clear hb hwh
  have hal : Mod No w (w.alloc (.cells #[.int .i64 what, .int .i64 off, .slice bq bs.length bc, .slice pq ps.length pc] 108)) := (Mod.refl No w).alloc _
  have hbx : OpBox8 (w.alloc (.cells #[.int .i64 what, .int .i64 off, .slice bq bs.length bc, .slice pq ps.length pc] 108)) w.heap.size what off bq bs.length bc pq ps.length pc := heap_alloc_new w _
  have h1 := h.no hal
  have HMA := Lib.hid hal
  go_enter Try.func57, Try.ntmps57
  go_upto_region 1 with (fail)
  generalize (w.alloc (.cells #[.int .i64 what, .int .i64 off, .slice bq bs.length bc, .slice pq ps.length pc] 108)) = w1 at hal HMA hbx h1 ⊢
  generalize w.heap.size = bx at hbx ⊢
  obtain ⟨z0, z1, z2, z3⟩ := hbx.cells
  have HBX := Lib.hid hbx
  have H1 := Lib.hid h1
  have HPS := Lib.hid hps
  clear h hbx h1 hps hal
  go_wp2_with fail
  refine (vnew_in pq ps pc w1 H1.out.rd.two.p (HPS.out.kept H1.out.rd.mod) hl).mono ?_
  rintro e w2 ⟨vk, rfl, hm2, hv2⟩
  clear z0 z1 z2 z3
  obtain ⟨z0, z1, z2, z3⟩ := (HBX.out.no hm2).cells
  go_wp2_with fail
  refine (rvnew_in (K := K) pq ps pc w2 hl).mono ?_
  rintro e w3 ⟨X, rfl, hX, hm3, hx3⟩
  have HD := Lib.hid (H1.out.views hm2 hv2 hX hm3 hx3)
  have HBX3 := Lib.hid (HBX.out.no (hm2.trans hm3))
  have HIS : Hid (invS 0 S) := H1.out.rd.two.inv
  have HLS : Hid (S.length = 2) := H1.out.rd.len
  have HM03 : Hid (Mod No w0 w3) := (H1.out.rd.mod.trans hm2).trans hm3
  clear z0 z1 z2 z3 hm2 hm3 hv2 hX hx3
  generalize w1.heap.size = base at HD
  generalize w2.heap.size = top at HD
  obtain ⟨z0, z1, z2, z3⟩ := HBX3.out.cells
  clear H1 HBX
  have HPW : Hid (∀ w', Mod No w3 w' → Calls Try.prog 18 #[.pointer (some ⟨B, 0, none⟩), .int .i64 0, .int .i64 off, .slice bq bs.length bc] w' fun e w2 => e = .returned (.int .i64 (wrE S 0 off bs.length)) ∧ Mod (One F) w' w2 ∧ PhM w2 B F (wrR S 0 off bs)) :=
    fun w' hm => pwrite_any 0 off bq bc bs w' ((HD.out.no hm).cc.p) ((HBY.out.kept (HM03.out.trans hm)).src)
  have HRW : Hid (∀ w', RV w0 X K pq pc ps 0 S c k w' → Calls Try.prog 79 #[.pointer (some ⟨K.R, 0, none⟩), .int .i64 0, .int .i64 off, .slice bq bs.length bc] w' fun e w2 => e = .returned (.int .i64 (wrE S 0 off bs.length)) ∧ Mod K.inn w' w2 ∧ RfM w2 K (wrR S 0 off bs)) :=
    fun w' hr => rwrite_any 0 off bq bc bs w' hr.r HBY.out.range (HBY.out.rsrc hr.mod hr.K)
  have HI1 : Hid (invS 0 (wrR S 0 off bs)) := invS_wrR HIS.out _ _ _
  have HL1 : Hid ((wrR S 0 off bs).length = 2) := by rw [wrR_len]; exact HLS.out
  generalize wrE S 0 off bs.length = r at HPW HRW
  generalize wrR S 0 off bs = S1 at HPW HRW HI1 HL1
  have er : (r == r) = true := beq_self_eq_true r
  have hS1 : (fun w' : World => w'.cell? ⟨bx, 1, none⟩ = some (.int .i64 off) ∧ w'.cell? ⟨bx, 2, none⟩ = some (.slice bq bs.length bc)) w3 := ⟨z1, z2⟩
  clear z1 z2 z3
  go_upto_region 16 with (fail)
  clear z0
  go_region_held3 (fun w' : World => w'.cell? ⟨bx, 1, none⟩ = some (.int .i64 off) ∧ w'.cell? ⟨bx, 2, none⟩ = some (.slice bq bs.length bc)) (first | exact hS1 | assumption) (first
    | (go_at_call 18; refine (HPW.out _ ((Mod.refl No w3).drew)).mono ?_; rintro e w5 ⟨rfl, hm5, hp5⟩; have hc5 := (HD.out.no ((Mod.refl No w3).drew)).cc.wrote hm5 hp5; have hS5 : (fun w' : World => w'.cell? ⟨bx, 1, none⟩ = some (.int .i64 off) ∧ w'.cell? ⟨bx, 2, none⟩ = some (.slice bq bs.length bc)) w5 := ⟨((World.cell?_of_block (w := w3) (hc5.2.block bx (lt_of_blk HBX3.out) (HBX3.out.neP HD.out.cc))).trans hS1.1), ((World.cell?_of_block (w := w3) (hc5.2.block bx (lt_of_blk HBX3.out) (HBX3.out.neP HD.out.cc))).trans hS1.2)⟩; have HC5 := Lib.hid hc5; clear hc5 hm5 hp5)
    | (go_at_call 79; refine (HRW.out _ ((HD.out.no ((Mod.refl No w3).drew)).mid HC5.out.2)).mono ?_; rintro e w6 ⟨rfl, hm6, hr6⟩; have hq6 := ((HD.out.no ((Mod.refl No w3).drew)).mid HC5.out.2).wrote hm6 hr6; have hS6 : (fun w' : World => w'.cell? ⟨bx, 1, none⟩ = some (.int .i64 off) ∧ w'.cell? ⟨bx, 2, none⟩ = some (.slice bq bs.length bc)) w6 := ⟨((World.cell?_of_block (w := w5) (hq6.2.block bx (World.block_lt_of_cell? w5 _ hS5.1) (HBX3.out.neQ HD.out.rr))).trans hS5.1), ((World.cell?_of_block (w := w5) (hq6.2.block bx (World.block_lt_of_cell? w5 _ hS5.1) (HBX3.out.neQ HD.out.rr))).trans hS5.2)⟩; have HQ6 := Lib.hid hq6; clear hq6 hm6 hr6))
  go_wp2
  go_ret
  exact ⟨rfl, S1, k, .stay, ((HD.out.no ((Mod.refl No w3).drew)).pair HC5.out.1 HC5.out.2 (Mod.refl No _) HQ6.out.1 HQ6.out.2).back HL1.out HI1.out⟩

theorem play8_any {w0 : World} {B F b c : Nat} {K : RfK} {S : List Fr} {k : Bk} (o : ROp) (w : World) (h : Eight w0 B F K b c S k w) (ho : o.ok w0) :
    Calls Try.prog 57 #[.pointer (some ⟨B, 0, none⟩), .pointer (some ⟨K.R, 0, none⟩), .pointer (some ⟨b, 0, none⟩), .pointer (some ⟨c, 0, none⟩), .agg o.cells.toArray] w fun e w' => e = .returned (.bool true) ∧ ∃ S' k', k.Step k' ∧ Eight w0 B F K b c S' k' w' := by
  obtain ⟨what, off, bq, bs, bc, pq, ps, pc⟩ := o
  have hp := ho.p
  have hpl := ho.pl
  have hby := ho.b
  dsimp only at hp hpl hby
  simp only [ROp.cells]
  by_cases hlong : 64 < ps.length
  · exact (play8_long what off bq bs.length bc pq ps pc w h hlong (by omega)).mono fun e w' q => ⟨q.1, S, k, .stay, h.no q.2⟩
  have hl : ps.length ≤ 64 := by omega
  by_cases h0 : what = 0
  · subst h0; exact play8_look off bq bs.length bc pq ps pc w h hp hl
  by_cases h1 : what = 1
  · subst h1
    by_cases hb : k.busy
    · exact play8_busy off bq bs.length bc pq ps pc w h hp hl hb
    · exact play8_take off bq bs.length bc pq ps pc w h hp hl hb
  by_cases h2 : what = 2
  · subst h2
    cases bq with
    | none =>
      obtain ⟨rfl, rfl⟩ := hby.nil rfl
      exact play8_ans_nil off pq ps pc w h hp hl
    | some ad => exact play8_ans off ad bs bc pq ps pc w h hp hl hby
  · exact play8_write what off bq bs bc pq ps pc w h hp hl hby ⟨h0, h1, h2⟩

end Go.Proofs.Ytpfjpfepbhfmeaa
