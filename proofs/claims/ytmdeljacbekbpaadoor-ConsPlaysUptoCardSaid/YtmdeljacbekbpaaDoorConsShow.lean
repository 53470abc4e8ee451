/- cons.Show, at every row of bytes that is not too long. -/
import Derived.Test.YtmdeljacbekbpaaDoorConsHex
import Derived.Test.YtmdeljacbekbpaaDoorOpenByt
import Derived.Lib.OthersKept
import Derived.BigCall
import Derived.Laws.BytesArg
namespace Go.Proofs.YtmdeljacbekbpaaDoor
open Go.RowKit
set_option maxRecDepth 100000

/-- A row of bytes as a text. -/
theorem byt_text {w : World} {q : Option Addr} {bs : List Int} {cap : Nat} (h : Byt w q bs cap) : (convert 22 9 (.slice q bs.length cap)).run Tryd.prog w = .ok (.string (strOfNums bs)) w := by
  by_cases h0 : 0 < bs.length
  · obtain ⟨b, off, rfl, hb, hc⟩ := h.at_ h0
    exact run_convert_bytes_arg w _ _ Tryd.underlying22 Tryd.underlying5 b off bs.length cap bs rfl (fun i hi => by
      rw [List.getD_eq_getElem?_getD, List.getElem?_eq_getElem hi]
      exact hc i _ (List.getElem?_eq_getElem hi)) _ Tryd.underlying9
  · obtain rfl : bs = [] := List.eq_nil_of_length_eq_zero (by omega)
    show (convert 22 9 (.slice q 0 cap)).run Tryd.prog w = _
    rw [run_convert_bytes_string w 22 9 _ q 0 cap Tryd.underlying22 Tryd.underlying5 Tryd.underlying9]
    cases q <;> simp [Conv.bytesToString, loadCells]
    all_goals rfl

theorem bld_below {T e : TypeId} {B b : Nat} {bs : List Value} {w w' : World} (h : Lib.IsBuilderF T e B b bs w) (hb : Below w.heap.size w w') : Lib.IsBuilderF T e B b bs w' := by
  have one : ∀ p, Lib.BuilderAtF T e B b p bs w → Lib.BuilderAtF T e B b p bs w' := fun p ⟨hB, v, hk, hown, hne⟩ =>
    ⟨hB, v, (hb.block b (lt_of_blk hk)).trans hk, ⟨hown.1, hown.2.imp id (fun ⟨g, cap, cur, fz, hv, hbg, hg, r⟩ => ⟨g, cap, cur, fz, hv, hbg, (hb.block g (lt_of_blk hg)).trans hg, r⟩)⟩, hne⟩
  exact h.imp (one _) (one _)

theorem dec_at (s : ByteArray) (pos : Nat) : dec (s.data.toList.drop pos) = Utf8.decode s pos := by
  rw [Lib.decode_N]
  unfold dec
  rw [List.length_drop, Lib.getD_dropU, Lib.getD_dropU, Lib.getD_dropU, Lib.getD_dropU, Nat.add_zero]

theorem decGo_at (s : ByteArray) (pos : Nat) (h : pos < s.size) : Lib.decodeGo (s.extract pos s.size) = Utf8.decode s pos := by
  have e : (s.extract pos s.size).data.toList = s.data.toList.drop pos := by
    rw [Lib.extract_data]
    exact List.take_of_length_le (by rw [List.length_drop, ← Lib.size_eq s]; omega)
  have e2 := Lib.decodeL_drop s pos
  unfold Lib.decodeGo
  rw [if_neg (by rw [Lib.size_eq, e, List.length_drop, ← Lib.size_eq s]; omega), ← e2, ← e]
  rfl

theorem dec_wid (s : ByteArray) (pos : Nat) (h : pos < s.size) : 1 ≤ (Utf8.decode s pos).2 ∧ pos + (Utf8.decode s pos).2 ≤ s.size := by
  have hl : pos < s.data.toList.length := by rw [← Lib.size_eq]; exact h
  have e := List.drop_eq_getElem_cons hl
  have hw := dec_width (s.data.toList[pos]) (s.data.toList.drop (pos + 1))
  rw [← e, dec_at, List.length_drop, ← Lib.size_eq] at hw
  omega

theorem show_at (s : ByteArray) (pos : Nat) (h : pos < s.size) : showR (s.data.toList.drop pos) = piece (s.data.toList.drop pos) ++ showR (s.data.toList.drop (pos + (Utf8.decode s pos).2)) := by
  have hl : pos < s.data.toList.length := by rw [← Lib.size_eq]; exact h
  have e := List.drop_eq_getElem_cons hl
  have h1 := showR_cons (s.data.toList[pos]) (s.data.toList.drop (pos + 1))
  rw [← e, dec_at, List.drop_drop] at h1
  exact h1

theorem letter_at (s : ByteArray) (pos k : Nat) : (s.extract pos (pos + k)).data.toList = (s.data.toList.drop pos).take k := by
  rw [Lib.extract_data, Nat.add_sub_cancel_left]

theorem piece_of {l : List UInt8} {v k : Nat} (h : dec l = (v, k)) : piece l = if v = 65533 ∧ k = 1 then hexs (l.take k) else if v = 92 then [92, 92] else if (32 ≤ v ∧ v ≤ 126) ∨ 160 ≤ v then l.take k else hexs (l.take k) := by
  unfold piece
  rw [h]
theorem piece_le (s : ByteArray) (pos : Nat) (h : pos < s.size) : (piece (s.data.toList.drop pos)).length ≤ 4 * (Utf8.decode s pos).2 := by
  have hl : pos < s.data.toList.length := by rw [← Lib.size_eq]; exact h
  have e := List.drop_eq_getElem_cons hl
  have h1 := piece_len (s.data.toList[pos]) (s.data.toList.drop (pos + 1))
  rw [← e, dec_at] at h1
  exact h1

set_option maxHeartbeats 8000000 in
/-- Show. -/
theorem show_any (q : Option Addr) (bs : List Int) (cap : Nat) (w : World) (hb : Byt w q bs cap) (hT : Lib.Utf8Tabs 0 1 w) (hl : 4 * bs.length ≤ 140737488355328) :
    Calls Tryd.prog 9 #[.slice q bs.length cap] w fun e w' => e = .returned (.string ⟨(showR (strOfNums bs).data.toList).toArray⟩) ∧ Below w.heap.size w w' := by
  obtain ⟨s, hs⟩ : ∃ s, s = strOfNums bs := ⟨_, rfl⟩
  have hsz : s.size = bs.length := by rw [hs]; exact strOfNums_size bs
  have hcv : ∀ o, (convert 22 9 (.slice q bs.length cap)).run Tryd.prog (w.alloc o) = .ok (.string s) (w.alloc o) := fun o => by rw [hs]; exact byt_text (hb.kept ((Mod.refl No w).alloc o))
  rw [← hs]
  rw [← hsz] at hl
  clear hb hs hsz
  go_enter Tryd.func9, Tryd.ntmps9
  go_wp2_with fail
  go_loopw [] (fun wr => ∃ (pos : Nat) (acc : List UInt8), pos ≤ s.size ∧ Lib.IsBuilderF 79 5 w.heap.size w.heap.size (Lib.byteCells acc) wr ∧ wr.heap[w.heap.size + 1]? = some (.stringIter s pos) ∧ Below w.heap.size w wr ∧ acc ++ showR (s.data.toList.drop pos) = showR s.data.toList ∧ acc.length ≤ 4 * pos) (fun wr => s.size - wr.iterPos (w.heap.size + 1))
  case atStart =>
    refine ⟨0, [], by omega, (Lib.IsBuilderF.of (Lib.fresh_isBuilder 79 5 w)).alloc _, ?_, ((Below.refl _ w).alloc (Nat.le_refl _) _).alloc (by simp) _, rfl, by simp⟩
    have := World.iter_heap (w.alloc (.cells #[.pointer none, .slice none 0 0] 79)) s 0
    simpa using this
  case round =>
    obtain ⟨pos, acc, hpl, hI, hit, hbw, hacc, hal⟩ := hrel
    have hws : w.heap.size + 1 < wr.heap.size := lt_of_blk hit
    by_cases hp : pos < s.size
    · obtain ⟨v, k, hvk⟩ : ∃ v k, Utf8.decode s pos = (v, k) := ⟨_, _, rfl⟩
      have hwd := dec_wid s pos hp
      have hsh := show_at s pos hp
      have hdc := dec_at s pos
      have hpl2 := piece_le s pos hp
      rw [hvk] at hwd hsh hdc hpl2
      dsimp only at hwd hsh hpl2
      have hnx : ∀ ty, (Instr.next (.pointer (some ⟨w.heap.size + 1, 0, none⟩)) true ty).run Tryd.prog wr = .ok (.tuple #[.bool true, .int .i64 pos, .int .i32 v]) (wr.iterAt (w.heap.size + 1) s (pos + k)) := fun ty => by
        have := Lib.run_next_any_at (P := Tryd.prog) wr (w.heap.size + 1) s pos ty hit hp
        rw [hvk] at this
        exact this
      have hI2 := hI.iterAt hit (pos + k)
      have hit2 := Lib.iterAt_heap wr (w.heap.size + 1) s pos (pos + k) hit
      have hbw2 := Lib.below_iterAt hbw (k := w.heap.size + 1) (by omega) s (pos + k)
      have him : wr.iterPos (w.heap.size + 1) = pos := by simp only [World.iterPos, hit]
      generalize wr.iterAt (w.heap.size + 1) s (pos + k) = w1 at hnx hI2 hit2 hbw2
      have hDE : ∀ w', w' = w1 → Calls Tryd.prog 28 #[.string (s.extract pos s.size)] w' fun e w2 => e = .returned (.tuple #[.int .i32 v, .int .i64 k]) ∧ Below w1.heap.size w1 w2 := fun w' h1 => by
        subst h1
        have := Tryd.utf8_DecodeRuneInString (s.extract pos s.size) w' (Utf8Tabs_below hT hbw2)
        rw [decGo_at s pos hp, hvk] at this
        exact this
      have HDE := Lib.hid hDE
      have HI2 := Lib.hid hI2
      have HIT2 := Lib.hid hit2
      have HBW2 := Lib.hid hbw2
      have HACC := Lib.hid hacc
      have HSH := Lib.hid hsh
      have HDC := Lib.hid hdc
      have HT := Lib.hid hT
      clear hDE hI2 hit2 hbw2 hacc hsh hdc hT hI hit hbw hvk
      have k0 : (0 : Int) ≤ (pos : Int) := by omega
      have k1 : (pos : Int) ≤ (s.size : Int) := by omega
      have k2 : IntKind.i64.wrap ((pos : Int) + (k : Int)) = (pos : Int) + (k : Int) := IntWalk.i64_in _ (by omega)
      have k3 : (pos : Int) ≤ (pos : Int) + (k : Int) := by omega
      have k4 : (pos : Int) + (k : Int) ≤ (s.size : Int) := by omega
      go_upto_region 8 with (go_at_call 28; refine (HDE.out _ rfl).mono ?_; rintro e w2 ⟨rfl, hb2⟩)
      have hI3 := bld_below HI2.out hb2
      have hit3 := (hb2.block _ (lt_of_blk HIT2.out)).trans HIT2.out
      have hbw3 : Below w.heap.size w w2 := HBW2.out.trans ⟨hb2.os, hb2.tape, hb2.output, hb2.size, fun i hi => hb2.block i (by have := HBW2.out.size; omega)⟩
      have hB2 : w.heap.size ≤ w2.heap.size := hbw3.size
      have hLs : (s.extract pos (pos + k)).size = k := by
        rw [ByteArray.size_extract]; omega
      have hLd := letter_at s pos k
      have HHX : Hid (∀ w' t, w' = w2 → t = s.extract pos (pos + k) → Calls Tryd.prog 26 #[.string t, .pointer (some ⟨w.heap.size, 0, none⟩)] w' fun e w3 => e = .returned (.tuple #[]) ∧ Lib.IsBuilderF 79 5 w.heap.size w.heap.size (Lib.byteCells (acc ++ hexs ((s.data.toList.drop pos).take k))) w3 ∧ Below w.heap.size w2 w3 ∧ Lib.OthersKept 5 (some w.heap.size) w2 w3) := fun w' t h1 h2 => by
        subst h1; subst h2
        have := hex_any w.heap.size w.heap.size acc (s.extract pos (pos + k)) w' hI3 (by rw [hLs]; omega) hB2
        rw [hLd] at this
        exact this
      have HWS : Hid (∀ w' t, w' = w2 → t.size ≤ 4 * k → Calls Tryd.prog 27 #[.pointer (some ⟨w.heap.size, 0, none⟩), .string t] w' fun e w3 => e = .returned (.tuple #[.int .i64 t.size, .nilIface]) ∧ (Lib.BuilderAtF 79 5 w.heap.size w.heap.size (.pointer (some ⟨w.heap.size, 0, none⟩)) (Lib.byteCells acc ++ Lib.strCells t) w3 ∧ Below w.heap.size w2 w3 ∧ Lib.OthersKept 5 (some w.heap.size) w2 w3)) := fun w' t h1 h2 => by
        subst h1
        exact Tryd.Builder_WriteString_k w.heap.size w.heap.size _ t w' hI3 (by rw [Lib.byteCells_length]; omega) hB2
      have HFIN : Hid (∀ w3, Lib.IsBuilderF 79 5 w.heap.size w.heap.size (Lib.byteCells (acc ++ piece (s.data.toList.drop pos))) w3 → Below w.heap.size w2 w3 → Lib.OthersKept 5 (some w.heap.size) w2 w3 → (∃ (pos : Nat) (acc : List UInt8), pos ≤ s.size ∧ Lib.IsBuilderF 79 5 w.heap.size w.heap.size (Lib.byteCells acc) w3 ∧ w3.heap[w.heap.size + 1]? = some (.stringIter s pos) ∧ Below w.heap.size w w3 ∧ acc ++ showR (s.data.toList.drop pos) = showR s.data.toList ∧ acc.length ≤ 4 * pos) ∧ s.size - w3.iterPos (w.heap.size + 1) < s.size - wr.iterPos (w.heap.size + 1)) := fun w3 h1 h2 h3 => by
        have h4 := h3.iter hit3 (by omega)
        refine ⟨⟨pos + k, acc ++ piece (s.data.toList.drop pos), by omega, h1, h4, hbw3.trans h2, ?_, by rw [List.length_append]; omega⟩, ?_⟩
        · rw [List.append_assoc, ← HSH.out]; exact HACC.out
        · rw [him]
          have : w3.iterPos (w.heap.size + 1) = pos + k := by simp only [World.iterPos, h4]
          omega
      have hpc := piece_of HDC.out
      have HPC := Lib.hid hpc
      have HLS := Lib.hid hLs
      have HLD := Lib.hid hLd
      clear hI3 hit3 hbw3 hB2 hLs hLd hpc hb2 hpl2 hal him hws hcv
      have k5 : ((pos : Int) + (k : Int)).toNat = pos + k := by omega
      by_cases cA : v = 65533 ∧ k = 1
      · have HE := Lib.hid (HPC.out.trans (if_pos cA))
        obtain ⟨rfl, c9⟩ := cA
        have d1 : ((k : Int) == 1) = true := by simp [c9]
        clear HPC c9
        go_wp2_with (go_at_call 26; refine (HHX.out _ _ rfl rfl).mono ?_; rintro e w3 ⟨rfl, h1, h2, h3⟩)
        exact HFIN.out _ (by rw [HE.out]; exact h1) h2 h3
      by_cases c1 : v = 65533
      · obtain rfl := c1
        have n1 : ¬ k = 1 := fun h => cA ⟨rfl, h⟩
        have n2 : ¬ (k : Int) = 1 := by omega
        have HE := Lib.hid (HPC.out.trans ((if_neg (fun h => n1 h.2)).trans ((if_neg (by decide)).trans (if_pos (.inr (by decide))))))
        clear HPC
        go_wp2_with (go_at_call 27; refine (HWS.out _ _ rfl (by rw [HLS.out]; omega)).mono ?_; rintro e w3 ⟨rfl, h1, h2, h3⟩)
        exact HFIN.out _ (by rw [HE.out, Lib.byteCells_append, ← HLD.out]; exact .inr h1) h2 h3
      by_cases c2 : v = 92
      · obtain rfl := c2
        have HE := Lib.hid (HPC.out.trans ((if_neg (fun h => absurd h.1 (by decide))).trans (if_pos rfl)))
        clear HPC
        go_wp2_with (go_at_call 27; refine (HWS.out _ _ rfl (by simp [ByteArray.size]; omega)).mono ?_; rintro e w3 ⟨rfl, h1, h2, h3⟩)
        exact HFIN.out _ (by rw [HE.out, Lib.byteCells_append]; exact .inr h1) h2 h3
      by_cases c3 : v < 32
      · have n1 : ¬ (v : Int) = 65533 := by omega
        have n2 : ¬ (v : Int) = 92 := by omega
        have n3 : ¬ (32 : Int) ≤ (v : Int) := by omega
        have n7 : ¬ (160 : Int) ≤ (v : Int) := by omega
        have n5 : ¬ 32 ≤ v := by omega
        have n8 : ¬ 160 ≤ v := by omega
        have HE := Lib.hid (HPC.out.trans ((if_neg (fun h => c1 h.1)).trans ((if_neg c2).trans (if_neg (fun h => h.elim (fun h => n5 h.1) n8)))))
        clear HPC
        go_wp2_with (go_at_call 26; refine (HHX.out _ _ rfl rfl).mono ?_; rintro e w3 ⟨rfl, h1, h2, h3⟩)
        exact HFIN.out _ (by rw [HE.out]; exact h1) h2 h3
      by_cases c4 : v ≤ 126
      · have n1 : ¬ (v : Int) = 65533 := by omega
        have n2 : ¬ (v : Int) = 92 := by omega
        have n3 : (32 : Int) ≤ (v : Int) := by omega
        have n4 : (v : Int) ≤ 126 := by omega
        have n5 : 32 ≤ v := by omega
        have n6 : v ≤ 126 := by omega
        have HE := Lib.hid (HPC.out.trans ((if_neg (fun h => c1 h.1)).trans ((if_neg c2).trans (if_pos (.inl ⟨n5, n6⟩)))))
        clear HPC
        go_wp2_with (go_at_call 27; refine (HWS.out _ _ rfl (by rw [HLS.out]; omega)).mono ?_; rintro e w3 ⟨rfl, h1, h2, h3⟩)
        exact HFIN.out _ (by rw [HE.out, Lib.byteCells_append, ← HLD.out]; exact .inr h1) h2 h3
      by_cases c5 : 160 ≤ v
      · have n1 : ¬ (v : Int) = 65533 := by omega
        have n2 : ¬ (v : Int) = 92 := by omega
        have n3 : (32 : Int) ≤ (v : Int) := by omega
        have n4 : ¬ (v : Int) ≤ 126 := by omega
        have n7 : (160 : Int) ≤ (v : Int) := by omega
        have n5 : 32 ≤ v := by omega
        have n6 : ¬ v ≤ 126 := by omega
        have n8 : 160 ≤ v := by omega
        have HE := Lib.hid (HPC.out.trans ((if_neg (fun h => c1 h.1)).trans ((if_neg c2).trans (if_pos (.inr n8)))))
        clear HPC
        go_wp2_with (go_at_call 27; refine (HWS.out _ _ rfl (by rw [HLS.out]; omega)).mono ?_; rintro e w3 ⟨rfl, h1, h2, h3⟩)
        exact HFIN.out _ (by rw [HE.out, Lib.byteCells_append, ← HLD.out]; exact .inr h1) h2 h3
      · have n1 : ¬ (v : Int) = 65533 := by omega
        have n2 : ¬ (v : Int) = 92 := by omega
        have n3 : (32 : Int) ≤ (v : Int) := by omega
        have n4 : ¬ (v : Int) ≤ 126 := by omega
        have n7 : ¬ (160 : Int) ≤ (v : Int) := by omega
        have n5 : 32 ≤ v := by omega
        have n6 : ¬ v ≤ 126 := by omega
        have n8 : ¬ 160 ≤ v := by omega
        have HE := Lib.hid (HPC.out.trans ((if_neg (fun h => c1 h.1)).trans ((if_neg c2).trans (if_neg (fun h => h.elim (fun h => n6 h.2) n8)))))
        clear HPC
        go_wp2_with (go_at_call 26; refine (HHX.out _ _ rfl rfl).mono ?_; rintro e w3 ⟨rfl, h1, h2, h3⟩)
        exact HFIN.out _ (by rw [HE.out]; exact h1) h2 h3
    · have hnx : ∀ ty, (Instr.next (.pointer (some ⟨w.heap.size + 1, 0, none⟩)) true ty).run Tryd.prog wr = _ := fun ty => Lib.run_next_end_at wr (w.heap.size + 1) s pos ty hit hp
      have hds : s.data.toList.drop pos = [] := List.drop_eq_nil_of_le (by rw [← Lib.size_eq s]; omega)
      rw [hds, showR_nil, List.append_nil] at hacc
      have HST := Lib.hid (Tryd.Builder_String_any_k w.heap.size w.heap.size acc wr hI (by omega))
      have HBW := Lib.hid hbw
      have HACC := Lib.hid hacc
      clear hI hbw hacc hds hcv
      go_wp2_with (go_at_call 29; refine HST.out.mono ?_; rintro e w3 ⟨rfl, _, h2, _⟩)
      go_ret
      rw [HACC.out]
      exact ⟨rfl, HBW.out.trans h2⟩

end Go.Proofs.YtmdeljacbekbpaaDoor
