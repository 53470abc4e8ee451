/- tenementref09.Text. -/
import Derived.Test.YthchkhfnhhpleaaDoorPathText
import Derived.Laws.BytesArg
namespace Go.Proofs.YthchkhfnhhpleaaDoor
open Go.RowKit Go.Shelf
set_option maxRecDepth 100000

theorem text_next {l : List Pm} {i : Nat} {q : Pm} (hq : l[i]? = some q) : joinWith 44 ((l.take (i + 1)).map Pm.text) = (if i = 0 then [] else joinWith 44 ((l.take i).map Pm.text) ++ [44]) ++ q.text := by
  have h : l.take (i + 1) = l.take i ++ [q] := by rw [List.take_add_one, hq]; rfl
  rw [h, List.map_append, List.map_singleton]
  have hl := (List.getElem?_eq_some_iff.1 hq).1
  by_cases h0 : i = 0
  · subst h0; simp [joinWith]
  · rw [if_neg h0, joinWith_snoc _ _ _ (fun e => by
      have h1 := congrArg List.length e
      rw [List.length_map, List.length_take, List.length_nil] at h1
      omega)]
    simp

theorem pm_letter (d : Int) (r w : Bool) : (Pm.mk d r w).text = [(Pm.mk d r w).letter] ++ [UInt8.ofNat (48 + d.toNat)] := rfl

set_option maxHeartbeats 8000000 in
theorem rtext_any (p : Option Addr) (l : List Pm) (cap : Nat) (w : World) (h : PmS w p l) (hc : l.length ≤ cap) :
    Calls Tryd.prog 24 #[.slice p l.length cap] w fun e w' => e = .returned (.tuple #[.string (txt (textR l).1), .int .i64 ((textR l).2 : Int)]) ∧ Mod No w w' := by
  by_cases h0 : l = []
  · subst h0
    go_enter Tryd.func24, Tryd.ntmps24
    go_wp2_with fail
    go_ret2
    exact ⟨rfl, Mod.refl _ _⟩
  have hz : ((l.length : Int) == 0) = false := beq_eq_false_iff_ne.2 (fun e => h0 (List.eq_nil_of_length_eq_zero (by omega)))
  by_cases h8 : 8 < l.length
  · have h8' : (8 : Int) < l.length := by omega
    have hR : textR l = ([], 1) := by unfold textR; rw [if_pos (.inr h8)]
    rw [hR]
    clear hR h hc h0
    go_enter Tryd.func24, Tryd.ntmps24
    go_wp2_with fail
    go_ret2
    exact ⟨rfl, Mod.refl _ _⟩
  have HS := Lib.hid h
  have HR : Hid (textR l = if goodP [] l = true then (joinWith 44 (l.map Pm.text), 0) else ([], 1)) := by unfold textR; rw [if_neg (by rintro (e | e); exact h0 e; exact h8 e)]; exact rfl
  have hl8 : (l.length : Int) ≤ 8 := by omega
  have h8' : ¬ (8 : Int) < l.length := by omega
  have H0 : Hid (goodP [] l = goodP (l.take 0) (l.drop 0)) := rfl
  clear h h0
  go_enter Tryd.func24, Tryd.ntmps24
  go_wp2_with fail
  go_loopw [4, 5] (fun vs vi wr => ∃ i : Nat, vi = .int .i64 i ∧ vs = .string (txt (joinWith 44 ((l.take i).map Pm.text))) ∧ i ≤ l.length ∧ goodP [] l = goodP (l.take i) (l.drop i) ∧ Mod No w wr) (fun _ vi _ => l.length - (intOf vi).toNat)
  case atStart => exact ⟨0, rfl, rfl, Nat.zero_le _, H0.out, Mod.refl _ _⟩
  case round =>
    obtain ⟨i, rfl, rfl, hi, hgo, hb⟩ := hrel
    have HB := Lib.hid hb
    have hm : Mod No w wr := hb
    have hjl := joinWith_len (l.take i)
    rw [List.length_take] at hjl
    by_cases hlt : i < l.length
    · have hlt' : (i : Int) < l.length := by omega
      obtain ⟨q, hq⟩ : ∃ q, l[i]? = some q := ⟨_, List.getElem?_eq_getElem hlt⟩
      have hq2 := hq
      obtain ⟨b, off, rfl, hblt, x0, x1, x2⟩ := (HS.out.kept hm).cellsAt hq
      rw [goodP_at hq] at hgo
      obtain ⟨dom, rd, wt⟩ := q
      dsimp only at x0 x1 x2 hgo
      by_cases hlo : dom < 0
      · have HE : Hid (textR l = ([], 1)) := by rw [HR.out, hgo, show decide (0 ≤ dom ∧ dom < 8) = false from decide_eq_false (by omega)]; exact rfl
        have dl : decide (dom < 0) = true := decide_eq_true hlo
        clear hgo hq hq2 hm hb hi h8 hjl
        generalize joinWith 44 ((l.take i).map Pm.text) = st
        go_wp2_with fail
        go_quiet (fail)
        go_wp2_with fail
        go_ret2
        rw [HE.out]
        exact ⟨rfl, HB.out.drewN _⟩
      have dl : decide (dom < 0) = false := decide_eq_false hlo
      by_cases hhi : 8 ≤ dom
      · have HE : Hid (textR l = ([], 1)) := by rw [HR.out, hgo, show decide (0 ≤ dom ∧ dom < 8) = false from decide_eq_false (by omega)]; exact rfl
        have dh : decide (8 ≤ dom) = true := decide_eq_true hhi
        clear hgo hq hq2 hm hb hi h8 hjl
        generalize joinWith 44 ((l.take i).map Pm.text) = st
        go_wp2_with fail
        go_quiet (fail)
        go_wp2_with fail
        go_ret2
        rw [HE.out]
        exact ⟨rfl, HB.out.drewN _⟩
      have dh : decide (8 ≤ dom) = false := decide_eq_false hhi
      rw [show decide (0 ≤ dom ∧ dom < 8) = true from decide_eq_true (by omega), Bool.true_and] at hgo
      have HNA : Hid (∀ w', Mod No w w' → Calls Tryd.prog 34 #[.slice (some ⟨b, off, none⟩) i cap, .int .i64 dom] w' fun e w'' => e = .returned (.bool (namedP (l.take i) dom)) ∧ w'' = w') := by
        intro w' hm'
        have := rnamed_any (some ⟨b, off, none⟩) (l.take i) cap dom w' ((HS.out.kept hm').take i) (by rw [List.length_take]; omega)
        rw [List.length_take, Nat.min_eq_left (by omega)] at this
        exact this.mono fun e w2 q => ⟨q.1, q.2.symm⟩
      have hic : (i : Int) ≤ cap := by omega
      by_cases hnm : namedP (l.take i) dom = true
      · have HE : Hid (textR l = ([], 1)) := by rw [HR.out, hgo, hnm]; exact rfl
        rw [hnm] at HNA
        clear hgo hq hq2 hm hb hi h8 hhi hlo hnm hjl
        generalize joinWith 44 ((l.take i).map Pm.text) = st
        go_wp2_with fail
        go_quiet ((go_at_call 34; exact Calls.quiet_of_same (HNA.out _ (HB.out.drewN _))))
        go_wp2_with fail
        go_ret2
        rw [HE.out]
        exact ⟨rfl, HB.out.drewN _⟩
      have hnf : namedP (l.take i) dom = false := by simpa using hnm
      rw [hnf] at HNA hgo
      have HGO : Hid (goodP [] l = goodP (l.take (i + 1)) (l.drop (i + 1))) := by rw [hgo]; exact rfl
      have hd0 : 0 ≤ dom := by omega
      have hd7 : dom ≤ 7 := by omega
      have hs48 : IntKind.i64.wrap (48 + dom) = 48 + dom := IntWalk.i64_in _ (by omega)
      have hs49 : IntKind.u8.wrap (48 + dom) = 48 + dom := IntWalk.u8_in _ (by omega)
      have hs50 : (48 + dom) % 256 = 48 + dom := by omega
      have hi1 : IntKind.i64.wrap ((i : Int) + 1) = (i : Int) + 1 := IntWalk.i64_in _ (by omega)
      obtain ⟨td, htd⟩ : ∃ td : ByteArray, td = txt [UInt8.ofNat (48 + dom.toNat)] := ⟨_, rfl⟩
      have htds : td.size = 1 := by rw [htd]; rfl
      have HCV : Hid (∀ w' : World, (convert 62 9 (.slice (some ⟨w'.heap.size, 0, none⟩) 1 1)).run Tryd.prog (w'.alloc (.cells #[.int .u8 (48 + dom)] 5)) = .ok (.string td) (w'.alloc (.cells #[.int .u8 (48 + dom)] 5))) := fun w' => by
        have := run_convert_bytes_arg (w'.alloc (.cells #[.int .u8 (48 + dom)] 5)) 62 5 Tryd.underlying62 Tryd.underlying5 w'.heap.size 0 1 1 [48 + dom] rfl (fun j hj => by
          obtain rfl : j = 0 := by omega
          exact row_cell (heap_alloc_new w' (.cells #[.int .u8 (48 + dom)] 5)) 0) 9 Tryd.underlying9
        rw [this, htd]
        unfold strOfNums
        rw [show ([48 + dom].map fun n => UInt8.ofNat n.toNat) = [UInt8.ofNat (48 + dom.toNat)] by
          simp only [List.map_cons, List.map_nil]
          rw [show (48 + dom).toNat = 48 + dom.toNat by omega]]
        rfl
      obtain ⟨lt, hlet⟩ : ∃ lt, lt = (Pm.mk dom rd wt).letter := ⟨_, rfl⟩
      have hnx := text_next hq2
      rw [pm_letter, ← hlet, ← List.append_assoc] at hnx
      have HX := Lib.hid x0
      have HX1 := Lib.hid x1
      have HX2 := Lib.hid x2
      have hstl : (txt (joinWith 44 ((l.take i).map Pm.text))).size ≤ 24 := by rw [txt_size]; omega
      have HNX := Lib.hid hnx
      have HLE := Lib.hid hlet
      have HTD := Lib.hid htd
      clear x1 x2 hgo hq hq2 hb hi h8 hhi hlo hnm hnf hjl hnx hlet htd
      obtain ⟨A0, hA0⟩ : ∃ A0, A0 = txt (joinWith 44 ((l.take i).map Pm.text)) := ⟨_, rfl⟩
      obtain ⟨A3, hA3⟩ : ∃ A3, A3 = txt (joinWith 44 ((l.take (i + 1)).map Pm.text)) := ⟨_, rfl⟩
      have HA3 := Lib.hid hA3
      rw [← hA0] at hstl ⊢
      by_cases hi0 : i = 0
      · have e3 : (⟨#[lt]⟩ : ByteArray) ++ td = A3 := by
          rw [hA3, HNX.out, if_pos hi0, List.nil_append, HTD.out]; exact txt_app [lt] _
        have e2 : A0 ++ (⟨#[lt]⟩ : ByteArray) = ⟨#[lt]⟩ := by
          rw [hA0, hi0]; rfl
        have s2 : ¬ 9223372036854775807 < A0.size + 1 := by omega
        have s3 : ¬ 9223372036854775807 < 1 + td.size := by omega
        have di : decide ((0 : Int) < (i : Int)) = false := decide_eq_false (by omega)
        have di2 : decide (0 < i) = false := decide_eq_false (by omega)
        clear hA0 hA3 hi0
        go_wp2_with fail
        go_quiet ((go_at_call 34; exact Calls.quiet_of_same (HNA.out _ (HB.out.drewN _))))
        have HM1 : Hid (Mod No w (wr.drewN nq)) := HB.out.drewN nq
        have hmd : Mod No wr (wr.drewN nq) := (Mod.refl No wr).drewN nq
        clear x0
        have x0 := (World.cell?_of_block (w := wr) (hmd.block b hblt (fun q => q))).trans HX.out
        have x1 := (World.cell?_of_block (w := wr) (hmd.block b hblt (fun q => q))).trans HX1.out
        have x2 := (World.cell?_of_block (w := wr) (hmd.block b hblt (fun q => q))).trans HX2.out
        generalize wr.drewN nq = w1 at HM1 x0 x1 x2 ⊢
        have hcv := HCV.out w1
        clear hmd
        cases rd <;> cases wt
        all_goals (
          have hlt9 := HLE.out
          simp [Pm.letter] at hlt9
          subst hlt9
          go_wp2_with fail
          go_roundw
          case rel => exact ⟨i + 1, by go_num, by rw [← HA3.out], by omega, HGO.out, HM1.out.alloc _⟩
          case measure => simp [intOf]; omega)
      · have e1 : A0 ++ (⟨#[44]⟩ : ByteArray) = txt (joinWith 44 ((l.take i).map Pm.text) ++ [44]) := by rw [hA0]; exact txt_app _ [44]
        have z1 : (txt (joinWith 44 ((l.take i).map Pm.text) ++ [44])).size = A0.size + 1 := by rw [hA0, txt_size, txt_size, List.length_append]; rfl
        have e2 : txt (joinWith 44 ((l.take i).map Pm.text) ++ [44]) ++ (⟨#[lt]⟩ : ByteArray) = txt (joinWith 44 ((l.take i).map Pm.text) ++ [44] ++ [lt]) := txt_app _ [lt]
        have z2 : (txt (joinWith 44 ((l.take i).map Pm.text) ++ [44] ++ [lt])).size = A0.size + 2 := by rw [hA0, txt_size, txt_size, List.length_append, List.length_append]; rfl
        have e3 : txt (joinWith 44 ((l.take i).map Pm.text) ++ [44] ++ [lt]) ++ td = A3 := by
          rw [hA3, HNX.out, if_neg hi0, HTD.out]; exact txt_app _ _
        generalize txt (joinWith 44 ((l.take i).map Pm.text) ++ [44] ++ [lt]) = A2 at e2 e3 z2
        generalize txt (joinWith 44 ((l.take i).map Pm.text) ++ [44]) = A1 at e1 e2 z1
        have s1 : ¬ 9223372036854775807 < A0.size + 1 := by omega
        have s2 : ¬ 9223372036854775807 < A1.size + 1 := by omega
        have s3 : ¬ 9223372036854775807 < A2.size + td.size := by omega
        have di : decide ((0 : Int) < (i : Int)) = true := decide_eq_true (by omega)
        have di2 : decide (0 < i) = true := decide_eq_true (by omega)
        clear hA0 hA3 z1 z2 hi0
        go_wp2_with fail
        go_quiet ((go_at_call 34; exact Calls.quiet_of_same (HNA.out _ (HB.out.drewN _))))
        have HM1 : Hid (Mod No w (wr.drewN nq)) := HB.out.drewN nq
        have hmd : Mod No wr (wr.drewN nq) := (Mod.refl No wr).drewN nq
        clear x0
        have x0 := (World.cell?_of_block (w := wr) (hmd.block b hblt (fun q => q))).trans HX.out
        have x1 := (World.cell?_of_block (w := wr) (hmd.block b hblt (fun q => q))).trans HX1.out
        have x2 := (World.cell?_of_block (w := wr) (hmd.block b hblt (fun q => q))).trans HX2.out
        generalize wr.drewN nq = w1 at HM1 x0 x1 x2 ⊢
        have hcv := HCV.out w1
        clear hmd
        cases rd <;> cases wt
        all_goals (
          have hlt9 := HLE.out
          simp [Pm.letter] at hlt9
          subst hlt9
          go_wp2_with fail
          go_roundw
          case rel => exact ⟨i + 1, by go_num, by rw [← HA3.out], by omega, HGO.out, HM1.out.alloc _⟩
          case measure => simp [intOf]; omega)
    · have hlt' : ¬ (i : Int) < l.length := by omega
      obtain rfl : i = l.length := by omega
      rw [List.drop_length, List.take_length] at hgo
      have hgood : goodP [] l = true := hgo
      have HE : Hid (textR l = (joinWith 44 (l.map Pm.text), 0)) := by rw [HR.out, if_pos hgood]; exact rfl
      rw [List.take_length]
      generalize joinWith 44 (l.map Pm.text) = st at HE ⊢
      clear hgo hgood hm hb hi h8 hjl
      go_wp2_with fail
      go_ret2
      rw [HE.out]
      exact ⟨rfl, HB.out⟩

end Go.Proofs.YthchkhfnhhpleaaDoor
