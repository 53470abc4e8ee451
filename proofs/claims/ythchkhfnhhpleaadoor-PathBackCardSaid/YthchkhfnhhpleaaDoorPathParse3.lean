/- path.Parse: the names between the strokes, the walk. (Printed by wip/gen_parse.py.) -/
import Derived.Test.YthchkhfnhhpleaaDoorPathParse2
import Derived.IntWalk
namespace Go.Proofs.YthchkhfnhhpleaaDoor
open Go.RowKit Go.Shelf
set_option maxRecDepth 100000
attribute [local go_sem] Oper.semAt_some

set_option maxHeartbeats 8000000 in
theorem parse_names (l : List UInt8) (hl : l ≠ []) (hlen : l.length ≤ 255) (w : World) :
    Calls Tryd.prog 14 #[.string (txt (47 :: l))] w (ParsePost (47 :: l) w) := by
  have hsz : (txt (47 :: l)).size = l.length + 1 := by show (47 :: l).toArray.size = _; simp
  have hx : (txt (47 :: l)).extract 1 (l.length + 1) = txt l := by rw [← hsz, Lib.extract_from]; rfl
  have hne : ((txt (47 :: l)).toList == [47]) = false := by
    rw [Lib.toList_data, txt_toList]
    cases l with
    | nil => exact absurd rfl hl
    | cons c l => simp
  have hle : ((l.length : Int) + 1) ≤ 256 := by omega
  have hpf := fun w' => Tryd.strings_HasPrefix (txt (47 :: l)) ⟨#[47]⟩ w'
  rw [txt_toList, show (⟨#[47]⟩ : ByteArray).data.toList = [47] from rfl, hasPrefix_one] at hpf
  dsimp only at hpf
  rw [show ((47 : UInt8) == 47) = true from rfl] at hpf
  have HPF := Lib.hid hpf
  have HL := Lib.hid hl
  clear hpf hl
  refine (callsIn_wide (n := 6)).1 ?_
  refine callsIn_of_wp_marks Tryd.func14 rfl trivial ?_ rfl
  simp only [Tryd.ntmps14, List.size_toArray, List.length_cons, List.length_nil, Nat.reduceAdd, Nat.reduceSub, Array.replicate_succ, Array.replicate_zero, List.push_toArray, List.append_toArray, List.nil_append, List.cons_append]
  gi_wp2_with (first | (refine ⟨trivial, ?_⟩; gi_at_call 28; refine (callsIn_wide.2 (HPF.out _)).mono ?_; rintro e w' ⟨rfl, rfl⟩) | (refine ⟨trivial, ?_⟩; gi_at_call 29; refine (callsIn_wide.2 (splitSeq_any _ _)).mono ?_; rintro e w' ⟨rfl, rfl⟩))
  have h8 := p8_made w l
  generalize ((((((((w.alloc (.cells #[.slice none 0 0] 24)).alloc (.cells #[.int .i64 0] 3)).alloc (.cells #[.int .i64 0] 25)).alloc (.cells #[.slice none 0 0] 24)).alloc (.cells #[.int .i64 1] 3)).alloc (.cells #[.string (txt l)] 9)).alloc (.cells #[.string ⟨#[47]⟩] 9)).alloc (.cells #[.int .i64 0] 3)) = W0 at h8 ⊢
  generalize w.heap.size + 1 + 1 + 1 + 1 + 1 + 1 + 1 = B3 at h8 ⊢
  generalize w.heap.size + 1 + 1 + 1 + 1 + 1 + 1 = B1 at h8 ⊢
  generalize w.heap.size + 1 + 1 + 1 + 1 + 1 = Bs at h8 ⊢
  generalize w.heap.size + 1 + 1 + 1 + 1 = b6 at h8 ⊢
  generalize w.heap.size + 1 + 1 + 1 = b5 at h8 ⊢
  generalize w.heap.size + 1 + 1 = b4 at h8 ⊢
  generalize w.heap.size + 1 = b3 at h8 ⊢
  generalize w.heap.size = b2 at h8 ⊢
  have H8 := Lib.hid h8
  obtain ⟨x0, x1, x2, x3, x4, x5, x6, x7, l0, l1, l2, l3, l4, l5, l6, l7, sz, bl⟩ := h8
  refine range_box (n := 6) (gf := 45) (lb := #[.pointer (some ⟨B1, 0, none⟩), .pointer (some ⟨Bs, 0, none⟩), .pointer (some ⟨B3, 0, none⟩)]) rfl (enters_of Tryd.func45 (by kernel_rfl) rfl) (enc := fun x : Pc => #[.string (txt x.1)]) (fun _ => rfl)
    (split_stops (6 - 1) (by omega) B1 Bs B3 (by omega) (by omega) l (by omega) W0 x6 x5 x7) KeepK.trans (fun W k o h => KeepK.putObj W k o (fun b hb => by simp at hb; omega))
    (PI w (B3 + 1) b2 b3 b4 b5 b6) (fun c => PIx w (B3 + 1) b2 b3 b4 b6 c) (pi_bides (by omega) (by omega) (by omega) (by omega) (by omega) (by omega) (by omega)) (fun c => px_bides (by omega) (by omega) (by omega) (by omega) (by omega) c) (pi_own (by omega)) (fun c => px_own (by omega) c)
    ⟨⟨_, x3, World.ownsRow_nil _ _ _ _, trivial⟩, ⟨x4, x0, x1, x2⟩, ⟨fun _ h => (by cases h), by simp⟩, bl, by omega⟩
    (fun x => { tmps := #[.string (txt (47 :: l)), undef, .pointer (some ⟨b2, 0, none⟩), .pointer (some ⟨b3, 0, none⟩), .pointer (some ⟨b4, 0, none⟩), .pointer (some ⟨b5, 0, none⟩), .pointer (some ⟨b6, 0, none⟩), .string (txt x.1), undef, undef, .bool (decide (256 < (l.length : Int) + 1)), .string (txt (47 :: l)), .int .i64 ((l.length : Int) + 1), .bool (decide (256 < (l.length : Int) + 1)), .bool false, .string (txt (47 :: l)), .bool true, .bool false, .bool false, .string (txt (47 :: l)), .bool false, .string (txt (47 :: l)), .string (txt l), .func (.func 45) #[] #[.pointer (some ⟨B1, 0, none⟩), .pointer (some ⟨Bs, 0, none⟩), .pointer (some ⟨B3, 0, none⟩)], .string (txt x.1), undef, undef, undef, undef, undef, undef, undef, undef, undef, undef, undef, undef, undef, undef, undef, undef, undef, undef, undef, undef, undef, undef, undef, undef, undef], defers := [] }) ?assign ?body ?done ?stop
  case assign =>
    intro l' x W K hK
    gi_wp2
    exact hK
  case body =>
    clear x0 x1 x2 x3 x4 x5 x6 x7 sz bl
    rintro l' pre x W ⟨⟨v, hv, hrow, _⟩, hbx, ⟨hok, hlen8⟩, hB, hn0⟩ hN
    obtain ⟨g, cap, rfl⟩ := owns_sl hrow
    have c5 := hv.cell
    have c6 := hbx.at_.cell
    have c2 := hbx.r2.cell
    have c3 := hbx.r3.cell
    have c4 := hbx.r4.cell
    have f2 := hbx.r2.frozen
    have f3 := hbx.r3.frozen
    have f4 := hbx.r4.frozen
    by_cases hp8 : pre.length = 8
    · have d8 : ((pre.length : Int) == 8) = true := by rw [hp8]; rfl
      have hpx := px_made hbx l1 l2 (by omega) (1 + (plen pre : Int)) 2
      have HPX := Lib.hid hpx
      have HX2 : Hid (w.heap.size ≤ b2 ∧ B3 + 1 ≤ W.heap.size) := ⟨l0, hn0⟩
      have HBW := Lib.hid hB
      have HOK := Lib.hid hok
      have n23 : b2 ≠ b3 := by omega
      have n24 : b2 ≠ b4 := by omega
      have n34 : b3 ≠ b4 := by omega
      have n62 : b6 ≠ b2 := by omega
      have n63 : b6 ≠ b3 := by omega
      have n64 : b6 ≠ b4 := by omega
      clear hpx hok hB hbx hrow hv
      gi_wp2
      gi_region
      all_goals (
        gi_wp2
        exact ⟨(HPX.out.1).from _, rfl, pre, x, 1 + (plen pre : Int), 2, rfl, HOK.out, hlen8, .inl ⟨hp8, rfl, rfl⟩, HPX.out.2.1, HPX.out.2.2.1 w HBW.out HX2.out.1, by rw [HPX.out.2.2.2]; exact HX2.out.2⟩)
    · have d8 : ((pre.length : Int) == 8) = false := beq_eq_false_iff_ne.2 (by omega)
      have hsx : (txt x.1).size = x.1.length := by show x.1.toArray.size = _; simp
      have hxl := x.2
      have hnl := nameR_le x.1
      have hpl := plen_le pre
      have hna := fun w' => name_any (txt x.1) w' (by rw [hsx]; omega)
      rw [txt_toList] at hna
      generalize hn1 : (nameR x.1).1 = na at hna hnl
      generalize hn2 : (nameR x.1).2 = ne at hna
      have HNA := Lib.hid hna
      have HNR : Hid ((nameR x.1).1 = na ∧ (nameR x.1).2 = ne) := ⟨hn1, hn2⟩
      have HX2 : Hid (w.heap.size ≤ b2 ∧ B3 + 1 ≤ W.heap.size) := ⟨l0, hn0⟩
      have HBW := Lib.hid hB
      have HOK := Lib.hid hok
      have HV := Lib.hid hv
      have HROW := Lib.hid hrow
      have HBX := Lib.hid hbx
      have hD4 : 1 ≤ 6 - 1 - 1 := by omega
      have hpb : (plen pre : Int) ≤ 2056 := by omega
      have hnb : (na : Int) ≤ 256 := by omega
      clear hna hn1 hn2 hok hB hbx hrow hv c2 c3 c4 c6 f2 f3 f4 hnl hpl
      by_cases he : ne = 0
      · have de : ((ne : Int) != 0) = false := by rw [he]; rfl
        have hne0 : (nameR x.1).2 = 0 := by rw [HNR.out.2]; exact he
        obtain ⟨i0, hi, hz0, hz1, hz2⟩ := info_parts Tryd.infoStr
        have n56 : b5 ≠ b6 := by omega
        have n65 : b6 ≠ b5 := by omega
        have hpl8 : pre.length < 8 := by omega
        have hxl' : (x.1.length : Int) ≤ 256 := by omega
        clear he
        gi_wp2_with (first
          | (refine ⟨trivial, ?_⟩; gi_at_call 15; refine (CallsIn.inRound l' (callsIn_wide.2 (HNA.out _))).mono ?_; rintro e wN ⟨rfl, hmN⟩; have HBN := Lib.hid hmN.no_below; have hsN : B3 + 1 ≤ wN.heap.size := Nat.le_trans HX2.out.2 HBN.out.size; have hv := boxed_below HV.out HBN.out; have hrow := rows_below HROW.out HBN.out; have HBXN := Lib.hid (HBX.out.below HBN.out); clear c5 hmN; have c5 := hv.cell)
          | (gi_at_builtin; refine wpListIn_append_own _ rfl _ _ 24 rfl (B3 + 1) 9 i0 (.string ⟨#[]⟩) 1 16 Tryd.underlying24 hi hz0 hz1 hz2 rfl (by decide) _ _ _ rfl (hrow.alloc _) ⟨wN.heap.size, 0, none⟩ 1 1 [.string (txt x.1)] rfl rfl (cell_one_new _ _ _) (by simp [Value.oneCell']) (by unfold maxLen; omega) (by omega) (by simp; omega) ?_; intro v' w1 hown' hgrow _; obtain ⟨g', cap', rfl⟩ := ownsRow_succ hown'; have HFIN := Lib.hid (ok_made (B := W0.heap.size) l1 l2 l3 l4 l5 l6 l7 HX2.out.1 hv hrow HBXN.out HBW.out HX2.out.2 HBN.out HOK.out hne0 hpl8 hown' hgrow); have hc1 := HFIN.out.1.cell; have hf1 := HFIN.out.1.frozen; have c61 := HFIN.out.2.1.cell; have f61 := HFIN.out.2.1.frozen; clear hown' hgrow hv hrow c5))
        exact HFIN.out.2.2 _ rfl
      · have de : ((ne : Int) != 0) = true := bne_iff_ne.2 (by omega)
        gi_wp2_with (refine ⟨trivial, ?_⟩; gi_at_call 15; refine (CallsIn.inRound l' (callsIn_wide.2 (HNA.out _))).mono ?_; rintro e wN ⟨rfl, hmN⟩; have HBN := Lib.hid hmN.no_below; have hbx := HBX.out.below HBN.out; have c2 := hbx.r2.cell; have c3 := hbx.r3.cell; have c4 := hbx.r4.cell; have c6 := hbx.at_.cell; have f2 := hbx.r2.frozen; have f3 := hbx.r3.frozen; have f4 := hbx.r4.frozen; have HPX := Lib.hid (px_made hbx l1 l2 (by omega) (1 + (plen pre : Int) + na) ne); clear hbx hmN c5)
        have n23 : b2 ≠ b3 := by omega
        have n24 : b2 ≠ b4 := by omega
        have n34 : b3 ≠ b4 := by omega
        have n62 : b6 ≠ b2 := by omega
        have n63 : b6 ≠ b3 := by omega
        have n64 : b6 ≠ b4 := by omega
        have hw1 : IntKind.i64.wrap (1 + (plen pre : Int) + na) = 1 + (plen pre : Int) + na := IntWalk.i64_in _ (by omega)
        gi_region
        all_goals (
          gi_wp2
          exact ⟨((others_below HBN.out).trans HPX.out.1).from _, rfl, pre, x, 1 + (plen pre : Int) + na, ne, rfl, HOK.out, hlen8, .inr ⟨hp8, by rw [HNR.out.2]; exact he, by rw [HNR.out.1], by rw [HNR.out.2]⟩, HPX.out.2.1, HPX.out.2.2.1 w (below_more HBW.out HBN.out) HX2.out.1, by rw [HPX.out.2.2.2]; exact Nat.le_trans HX2.out.2 HBN.out.size⟩)
  case done =>
    clear x0 x1 x2 x3 x4 x5 x6 x7 bl
    rintro D xs W hD hxs ⟨⟨v, hv, hrow, _⟩, hbx, ⟨hok, hlen8⟩, hB, hn0⟩ hK
    obtain ⟨g, cap, rfl⟩ := owns_sl hrow
    have c5 := hv.cell
    have c2 := hbx.r2.cell
    have c3 := hbx.r3.cell
    have c4 := hbx.r4.cell
    have f2 := hbx.r2.frozen
    have f3 := hbx.r3.frozen
    have f4 := hbx.r4.frozen
    gi_wp2
    have e2 := ((hbx.r2.set (.slice g xs.length cap)).other (B' := b3) (by omega) (.int .i64 0)).other (B' := b4) (by omega) (.int .i64 0)
    have e3 := ((hbx.r3.other (B' := b2) (by omega) (.slice g xs.length cap)).set (.int .i64 0)).other (B' := b4) (by omega) (.int .i64 0)
    have e4 := ((hbx.r4.other (B' := b2) (by omega) (.slice g xs.length cap)).other (B' := b3) (by omega) (.int .i64 0)).set (.int .i64 0)
    have hke := ((KeepsOthers.setCell W ⟨b2, 0, none⟩ (.slice g xs.length cap)).trans (KeepsOthers.setCell _ ⟨b3, 0, none⟩ (.int .i64 0))).trans (KeepsOthers.setCell _ ⟨b4, 0, none⟩ (.int .i64 0))
    have hrE := rows_box (rows_box (rows_box hrow (show b2 < B3 + 1 by omega) (.slice g xs.length cap)) (show b3 < B3 + 1 by omega) (.int .i64 0)) (show b4 < B3 + 1 by omega) (.int .i64 0)
    have hbE := belowBox (belowBox (belowBox hB (Bs := b2) (by omega) (.slice g xs.length cap)) (Bs := b3) (by omega) (.int .i64 0)) (Bs := b4) (by omega) (.int .i64 0)
    generalize (((W.setCell ⟨b2, 0, none⟩ (.slice g xs.length cap)).setCell ⟨b3, 0, none⟩ (.int .i64 0)).setCell ⟨b4, 0, none⟩ (.int .i64 0)) = WE at e2 e3 e4 hke hrE hbE ⊢
    have hKE := hke.same D _ hK rfl
    refine ⟨by simp, .inl ⟨_, _, rfl, run_takeDeferred hKE, ?_⟩⟩
    have q2 := (boxed_grown (B := D) e2 (grownBy_putObj' WE D (.deferred none)) (fun r e => by cases e; exact ⟨Nat.le_refl _, _, hKE, rfl⟩)).cell
    have q3 := (boxed_grown (B := D) e3 (grownBy_putObj' WE D (.deferred none)) (fun r e => by cases e; exact ⟨Nat.le_refl _, _, hKE, rfl⟩)).cell
    have q4 := (boxed_grown (B := D) e4 (grownBy_putObj' WE D (.deferred none)) (fun r e => by cases e; exact ⟨Nat.le_refl _, _, hKE, rfl⟩)).cell
    have hrD := rows_base (rows_grown (B := D) hrE (grownBy_putObj' WE D (.deferred none)) (fun r e => by cases e; exact ⟨Nat.le_refl _, _, hKE, rfl⟩)) (b := w.heap.size) (by omega)
    have hbD := below_grown (B := D) hbE (by omega) (grownBy_putObj' WE D (.deferred none)) (fun r e => by cases e; exact ⟨Nat.le_refl _, _, hKE, rfl⟩)
    refine ⟨.tuple #[.slice g xs.length cap, .int .i64 0, .int .i64 0], by simp [results, Tryd.results14, go_sem, q2, q3, q4], ?_⟩
    unfold ParsePost
    rw [parse_all HL.out hlen hxs hok hlen8]
    refine ⟨_, rfl, hbD, ?_⟩
    dsimp only
    rw [← hxs, List.length_map, List.map_map]
    exact hrD
  case stop =>
    clear x0 x1 x2 x3 x4 x5 x6 x7 bl
    rintro D c pre W hD hpre ⟨rfl, p, x, a, e, rfl, hok, hlen8, hae, hbx, hB, hn0⟩ hK
    gi_wp2
    refine ⟨by simp, .inl ⟨_, _, rfl, run_takeDeferred hK, ?_⟩⟩
    have hbg := hbx.grownNo (B := D) (grownBy_putObj' W D (.deferred none)) (fun r e => by cases e; exact ⟨Nat.le_refl _, _, hK, rfl⟩)
    have q2 := hbg.r2.cell
    have q3 := hbg.r3.cell
    have q4 := hbg.r4.cell
    have hbD := below_grown (B := D) hB (by omega) (grownBy_putObj' W D (.deferred none)) (fun r e => by cases e; exact ⟨Nat.le_refl _, _, hK, rfl⟩)
    refine ⟨.tuple #[.slice none 0 0, .int .i64 a, .int .i64 e], by simp [results, Tryd.results14, go_sem, q2, q3, q4], ?_⟩
    have hR : parseR (47 :: l) = ([], a.toNat, e.toNat) := parse_bad HL.out hlen hpre hok hlen8 (by
      rcases hae with ⟨h1, rfl, rfl⟩ | ⟨h1, h2, rfl, rfl⟩
      · exact .inl ⟨h1, by omega, rfl⟩
      · exact .inr ⟨h1, h2, by omega, by omega⟩)
    have ha0 : 0 ≤ a ∧ 0 ≤ e := by rcases hae with ⟨_, rfl, rfl⟩ | ⟨_, _, rfl, rfl⟩ <;> exact ⟨by omega, by omega⟩
    have := parse_done hR hbD
    rw [Int.toNat_of_nonneg ha0.1, Int.toNat_of_nonneg ha0.2] at this
    exact this

theorem dummy : True := trivial
end Go.Proofs.YthchkhfnhhpleaaDoor
