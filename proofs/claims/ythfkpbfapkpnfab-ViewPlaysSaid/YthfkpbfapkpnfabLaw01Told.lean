/- tenementlaw01.ints, told: both machines tell the same. -/
import Derived.Test.YthfkpbfapkpnfabLaw01Least
import Derived.Deep.QuietTactic
import Derived.BigQuiet
namespace Go.Proofs.Ythfkpbfapkpnfab
open Go.RowKit
set_option maxRecDepth 100000

theorem own_no {w w' : World} {n₀ : Nat} {e : TypeId} {size : Nat} {v : Value} {k : Nat} {xs : List Value} (h : w.ownsRow n₀ e size v k xs) (hm : Mod No w w') : w'.ownsRow n₀ e size v k xs := by
  refine ⟨h.1, ?_⟩
  rcases h.2 with h2 | ⟨g, cap, cur, hv, hg, hr, r⟩
  · exact .inl h2
  · exact .inr ⟨g, cap, cur, hv, hg, hm.blk hr (fun q => q), r⟩

set_option maxHeartbeats 1600000 in
theorem ints_yes {b1 b2 : Nat} {q1 q2 : Option Addr} {k c1 c2 : Nat} {xs : List Int} (w : World) (hk : k ≤ 256) (h1 : w.ownsRow b1 3 1 (.slice q1 k c1) k (xs.map (Value.int .i64))) (h2 : w.ownsRow b2 3 1 (.slice q2 k c2) k (xs.map (Value.int .i64))) :
    Calls Try.prog 82 #[.slice q1 k c1, .slice q2 k c2] w fun e w' => e = .returned (.bool true) ∧ Mod No w w' := by
  have hl := h1.1
  simp at hl
  go_enter Try.func82, Try.ntmps82
  go_wp2
  go_loopw [5] (fun v wr => ∃ i : Nat, i ≤ k ∧ v = .int .i64 i ∧ Mod No w wr) (fun v _ => k - (intOf v).toNat)
  case atStart => exact ⟨0, Nat.zero_le _, rfl, Mod.refl _ _⟩
  case round =>
    obtain ⟨i, hi, rfl, hm⟩ := hrel
    by_cases hlt : i < k
    · obtain ⟨x, hx⟩ : ∃ x, xs[i]? = some x := ⟨_, List.getElem?_eq_getElem (by omega)⟩
      obtain ⟨g1, p1, e1, _, hc1, _, hx1⟩ := row_item (own_no h1 hm) i x hx
      obtain ⟨g2, p2, e2, _, hc2, _, hx2⟩ := row_item (own_no h2 hm) i x hx
      cases e1
      cases e2
      have b3 : (0 : Int) ≤ i := by omega
      have b4 : (i : Int) < k := by omega
      clear h1 h2 hx hl
      go_wp2_with fail
      go_quiet (fail)
      go_wp2
      go_roundw
      case rel => exact ⟨i + 1, by omega, by go_num, hm.drewN _⟩
      case measure => simp [intOf]; omega
    · obtain rfl : i = k := by omega
      go_wp2
      go_ret
      exact ⟨rfl, hm⟩

/-- The conversion of a frame's bytes in the document's machine. -/
theorem conv_ref {w : World} {K : RfK} {S : List Fr} (h : RfM w K S) {i b c : Nat} {f : Fr} (hi : S[i]? = some f) (hc : ∀ j x, f.bytes[j]? = some x → w.cell? ⟨b, j, none⟩ = some (.int .u8 x)) (q : Nat) :
    (convert 33 9 (.slice (some ⟨b, 0, none⟩) 256 c)).run Try.prog (w.drewN q) = .ok (.string (strOfNums f.bytes)) (w.drewN q) := by
  have hl := (h.ok f (List.mem_of_getElem? hi)).1
  refine run_convert_bytes_arg (w.drewN q) 33 5 Try.underlying33 Try.underlying5 b 0 256 c f.bytes hl (fun j hj => ?_) 9 Try.underlying9
  have hjl : j < f.bytes.length := by omega
  have := hc j f.bytes[j] (List.getElem?_eq_getElem hjl)
  rw [Nat.zero_add, List.getD_eq_getElem?_getD, List.getElem?_eq_getElem hjl]
  exact this

set_option maxHeartbeats 4000000 in
theorem told_yes {B F m : Nat} {K : RfK} {S : List Fr} (w : World) (h : Two w B F K m S) :
    Calls Try.prog 37 #[.pointer (some ⟨B, 0, none⟩), .pointer (some ⟨K.R, 0, none⟩)] w fun e w' => e = .returned (.bool true) ∧ Mod No w w' := by
  obtain ⟨hP, hR, hI⟩ := h
  obtain ⟨cF, hcF, hF0⟩ := hR.cF
  have hS0 : (fun w' : World => w'.cell? ⟨K.R, 0, none⟩ = some (.slice (some ⟨K.G, 0, none⟩) S.length cF)) w := hF0
  have HP := Lib.hid hP
  have HR := Lib.hid hR
  have hlenS := hP.len
  have HSZ : Hid (∀ w', Mod No w w' → Calls Try.prog 24 #[.pointer (some ⟨B, 0, none⟩)] w' fun e w2 => e = .returned (.int .i64 S.length) ∧ w' = w2) :=
    fun w' hm => size_made w' (hP.kept hm (fun q => q) (fun q => q))
  have HL1 : Hid (∀ w', Mod No w w' → Calls Try.prog 25 #[.pointer (some ⟨B, 0, none⟩)] w' fun e w2 => e = .returned (.int .i64 (idxs S (-1) S.length).length) ∧ Mod No w' w2) :=
    fun w' hm => (left_in w' (hP.kept hm (fun q => q) (fun q => q))).mono fun e w2 q => ⟨q.1, Mod.of_below q.2⟩
  have HL2 : Hid (∀ w', Mod No w w' → Calls Try.prog 81 #[.pointer (some ⟨K.R, 0, none⟩)] w' fun e w2 => e = .returned (.int .i64 (idxs S (-1) S.length).length) ∧ Mod No w' w2) :=
    fun w' hm => (rleft_in w' (hR.keptNo hm)).mono fun e w2 q => ⟨q.1, Mod.of_below q.2⟩
  clear hP hR hI
  go_enter Try.func37, Try.ntmps37
  go_wp2_with fail
  go_region_held3 (fun w' => w'.cell? ⟨K.R, 0, none⟩ = some (.slice (some ⟨K.G, 0, none⟩) S.length cF)) (first | exact hS0 | assumption) (first
    | (go_at_call 24; refine (HSZ.out _ ((Mod.refl No w).drew)).mono ?_; rintro e w2 ⟨rfl, rfl⟩)
    | (go_at_call 25; refine (HL1.out _ ((Mod.refl No w).drew)).mono ?_; rintro e w3 ⟨rfl, hm3⟩; have hS3 : (fun w' : World => w'.cell? ⟨K.R, 0, none⟩ = some (.slice (some ⟨K.G, 0, none⟩) S.length cF)) w3 := (World.cell?_of_block (w := w.drew) (hm3.block K.R (HR.out.lt K.R (.inl rfl)) (fun q => q))).trans hS0)
    | (go_at_call 81; refine (HL2.out _ ((Mod.refl No w).drew.trans hm3)).mono ?_; rintro e w4 ⟨rfl, hm4⟩; have hS4 : (fun w' : World => w'.cell? ⟨K.R, 0, none⟩ = some (.slice (some ⟨K.G, 0, none⟩) S.length cF)) w4 := (World.cell?_of_block (w := w3) (hm4.block K.R (World.block_lt_of_cell? w3 _ hS3) (fun q => q))).trans hS3))
  have hm04 : Mod No w w4 := ((Mod.refl No w).drew.trans hm3).trans hm4
  clear hm3 hm4 hS0 hS3 hS4 HSZ HL1 HL2 hF0 hcF
  go_wp2_with fail
  go_loopw [5] (fun v wr => ∃ i : Nat, i ≤ S.length ∧ v = .int .i64 i ∧ Mod No w wr) (fun v _ => S.length - (intOf v).toNat)
  case atStart => exact ⟨0, Nat.zero_le _, rfl, hm04⟩
  case round =>
    obtain ⟨i, hi, rfl, hm⟩ := hrel
    have hPr := HP.out.kept hm (fun q => q) (fun q => q)
    have hRr := HR.out.keptNo hm
    obtain ⟨c1, hc1, hF1⟩ := hRr.cF
    by_cases hlt : i < S.length
    · obtain ⟨f, hf⟩ : ∃ f, S[i]? = some f := ⟨_, List.getElem?_eq_getElem hlt⟩
      go_wp2_with fail
      refine (frame_in i f _ hPr (by omega) (by rw [Int.toNat_natCast]; exact hf)).mono ?_
      rintro e w5 ⟨rfl, hm5⟩
      have hPr5 := hPr.kept hm5 (fun q => q) (fun q => q)
      go_wp2_with fail
      refine (read_in i 0 256 f _ (hPr5.alloc _) ⟨by omega, by omega, by omega, by omega⟩ (by rw [Int.toNat_natCast]; exact hf)).mono ?_
      rintro e w6 ⟨rfl, hm6, hlt6, hg6⟩
      have hl := (hPr.ok f (List.mem_of_getElem? hf)).1
      rw [show (f.bytes.drop (0 : Int).toNat).take (256 : Int).toNat = f.bytes from List.take_of_length_le (by rw [show (f.bytes.drop (0 : Int).toNat) = f.bytes from rfl, hl]; exact Nat.le_refl _)] at hg6
      have hm56 := ((hm5.alloc (.cells #[.int .i64 f.owner, .int .i64 f.type, .int .i64 f.count, .int .i64 f.total] 30)).trans hm6)
      have hR6 := hRr.keptNo hm56
      have hfb := hm6.blk (heap_alloc_new w5 (.cells #[.int .i64 f.owner, .int .i64 f.type, .int .i64 f.count, .int .i64 f.total] 30)) (fun q => q)
      have x0 := row_cell (l := f.head) hfb 0
      have x1 := row_cell (l := f.head) hfb 1
      have x2 := row_cell (l := f.head) hfb 2
      have x3 := row_cell (l := f.head) hfb 3
      obtain ⟨cF6, hcF6, hF6⟩ := hR6.cF
      obtain ⟨cB6, hcB6, hB6⟩ := hR6.cB
      obtain ⟨rb, rc, hrc, hbl, hcR, hcx, _⟩ := hR6.cR hf
      have y0 := hR6.cH hf 0 (by omega)
      have y1 := hR6.cH hf 1 (by omega)
      have y2 := hR6.cH hf 2 (by omega)
      have y3 := hR6.cH hf 3 (by omega)
      simp only [Nat.add_zero, Fr.head, List.getElem?_cons_zero, List.getElem?_cons_succ] at x0 x1 x2 x3 y0 y1 y2 y3
      have hv2 := conv_ref (c := rc) hR6 hf hcx
      have hv1 : ∀ q, (convert 33 9 (.slice (some ⟨(w5.alloc (.cells #[.int .i64 f.owner, .int .i64 f.type, .int .i64 f.count, .int .i64 f.total] 30)).heap.size, 0, none⟩) 256 256)).run Try.prog (w6.drewN q) = .ok (.string (strOfNums f.bytes)) (w6.drewN q) :=
        fun q => conv_row (w := w6.drewN q) hg6 0 256 256 f.bytes (by rw [List.drop_zero, List.take_of_length_le (by omega)]) (by omega)
      rw [World.size_alloc] at hv1
      have b3 : (0 : Int) ≤ i := by omega
      have b4 : (i : Int) < S.length := by omega
      have hmm := hm.trans hm56
      clear hm5 hm6 hPr hRr hPr5 hR6 hfb hg6 hcx hm56 hbl hm hlt6
      go_wp2_with fail
      go_quiet (fail)
      go_wp2
      go_roundw
      case rel => exact ⟨i + 1, by omega, by go_num, hmm.drewN _⟩
      case measure => simp [intOf]; omega
    · obtain rfl : i = S.length := by omega
      clear hPr
      go_wp2_with fail
      go_loopw [10] (fun v wx => ∃ t : Int, -2 ≤ t ∧ t ≤ 9 ∧ v = .int .i64 t ∧ Mod No w wx) (fun v _ => (9 - intOf v).toNat)
      case atStart => exact ⟨-2, by omega, by omega, rfl, hm⟩
      case round =>
        obtain ⟨t, ht0, ht1, rfl, hmx⟩ := hrel
        have hPx := HP.out.kept hmx (fun q => q) (fun q => q)
        have hRx := HR.out.keptNo hmx
        by_cases hlt2 : t ≤ 8
        · have d1 : decide (t ≤ 8) = true := decide_eq_true hlt2
          go_wp2_with fail
          refine (owned_in t _ hPx).mono ?_
          rintro e w5 ⟨v1, rfl, hown1, hb1⟩
          have hm5 := Mod.of_below (P := No) hb1
          obtain ⟨q1, p1, rfl⟩ := owns_slice hown1
          go_wp2_with fail
          refine (rowned_in t _ (hRx.keptNo hm5)).mono ?_
          rintro e w6 ⟨v2, rfl, hown2, hb2⟩
          have hm6 := Mod.of_below (P := No) hb2
          obtain ⟨q2, p2, rfl⟩ := owns_slice hown2
          have hil := idxs_len S t S.length
          have HIN := Lib.hid (ints_yes w6 (by omega) (own_no hown1 hm6) hown2)
          have hmm := (hmx.trans hm5).trans hm6
          clear hown1 hown2 hb1 hb2 hPx hRx hm5 hm6
          go_wp2_with (go_at_call 82; refine HIN.out.mono ?_; rintro e w7 ⟨rfl, hm7⟩)
          go_roundw
          case rel => exact ⟨t + 1, by omega, by omega, rfl, hmm.trans hm7⟩
          case measure => simp [intOf]; omega
        · have d1 : decide (t ≤ 8) = false := decide_eq_false hlt2
          obtain ⟨c2, hc2, hF2⟩ := hRx.cF
          go_wp2_with fail
          refine (frame_out S.length _ hPx (.inr (by omega))).mono ?_
          rintro e w5 ⟨rfl, hm5⟩
          have hP5 := (hPx.kept hm5 (fun q => q) (fun q => q)).alloc (.cells #[.int .i64 0, .int .i64 0, .int .i64 0, .int .i64 0] 30)
          have hm15 := (hmx.trans hm5).alloc (.cells #[.int .i64 0, .int .i64 0, .int .i64 0, .int .i64 0] 30)
          clear hPx hRx hm5 hF2
          go_wp2_with fail
          refine (frame_out (-1) _ hP5 (.inl (by omega))).mono ?_
          rintro e w6 ⟨rfl, hm6⟩
          have hm16 := (hm15.trans hm6).alloc (.cells #[.int .i64 0, .int .i64 0, .int .i64 0, .int .i64 0] 30)
          clear hP5 hm6 hm15
          go_wp2
          go_ret
          exact ⟨rfl, hm16⟩

end Go.Proofs.Ythfkpbfapkpnfab
