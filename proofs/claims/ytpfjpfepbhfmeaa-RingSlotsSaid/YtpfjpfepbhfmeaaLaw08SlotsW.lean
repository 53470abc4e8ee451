/- tenementlaw08.RingSlots: the walk. -/
import Derived.Test.YtpfjpfepbhfmeaaLaw08Slots
import Derived.BigQuiet
namespace Go.Proofs.Ytpfjpfepbhfmeaa
open Go.RowKit
set_option maxRecDepth 100000

/-- What holds ahead of each round. -/
structure SlotsI (w0 : World) (B F b base top : Nat) (vk : ViK) (i : Nat) (g : List Int) (w : World) : Prop where
  cv : CV B F b base top vk (2 * i) [] (pgF g) (bkI i) w
  mod : Mod No w0 w
  lo : w0.heap.size ≤ F ∧ w0.heap.size ≤ b ∧ w0.heap.size ≤ base
theorem pok {w : World} {B F : Nat} {g : List Int} (h : PhM w B F (pgF g)) : g.length = 256 ∧ ∀ x ∈ g, 0 ≤ x ∧ x ≤ 255 := h.ok { ownFr with bytes := g } (by simp [pgF])

set_option maxHeartbeats 16000000 in
theorem rslots_any (q0 : Option Addr) (pg : List Int) (c0 : Nat) (turns : Int) (w : World) (hb : Byt w q0 pg c0) (ht : 0 ≤ turns ∧ turns ≤ 65535) :
    Calls Try.prog 9 #[.slice q0 pg.length c0, .int .u16 turns] w fun e w' => e = .returned (.bool true) ∧ Mod No w w' := by
  have HB := Lib.hid (begin8_in q0 pg c0 w hb)
  obtain ⟨M, hM⟩ : ∃ M : Nat, (M : Int) = turns % 600 := ⟨(turns % 600).toNat, by omega⟩
  have hM6 : M < 600 := by omega
  clear hb
  go_enter Try.func9, Try.ntmps9
  go_wp2_with fail
  refine HB.out.mono ?_
  rintro e w1 ⟨B, F, K, rfl, h1⟩
  have H1 := Lib.hid h1
  obtain ⟨R, hR⟩ : ∃ R, R = K.R := ⟨_, rfl⟩
  rw [← hR]
  clear h1 HB hR
  go_wp2_with fail
  refine (bnew_in 0 w1 (by omega)).mono ?_
  rintro e w2 ⟨rfl, hm2, hk2⟩
  go_wp2_with fail
  refine (vnew_in none [] 0 w2 (H1.out.no hm2).two.p ⟨fun o ho => absurd ho (by simp), fun h => absurd h (by simp)⟩ (by simp)).mono ?_
  rintro e w3 ⟨vk, rfl, hm3, hv3⟩
  have hs2 := hm2.size
  have hI0 : SlotsI w B F w1.heap.size w2.heap.size w3.heap.size vk 0 (splice ownFr.bytes 0 (pg.take 256)) w3 := by
    have h2 := ((H1.out.no hm2).no hm3)
    have hp := h2.two.p
    rw [pageS_pg] at hp
    exact ⟨⟨hp, hv3, hk2.no hm3, ⟨by simp [bkI], by simp [bkI], by simp [bkI]⟩, (H1.out.no hm2).two.p.ltF, hk2.lt⟩, h2.mod, h2.F, by have := H1.out.mod.size; omega, by have := H1.out.mod.size; omega⟩
  have HI0 := Lib.hid hI0
  clear hI0 hm2 hk2 hm3 hv3 hs2 H1
  generalize w1.heap.size = b at HI0 ⊢
  generalize w2.heap.size = base at HI0
  generalize w3.heap.size = top at HI0
  go_wp2_with fail
  rw [← hM]
  go_loopw [13] (fun v wr => ∃ i : Nat, i ≤ M ∧ v = .int .i64 i ∧ ∃ g, SlotsI w B F b base top vk i g wr) (fun v _ => M - (intOf v).toNat)
  case atStart => exact ⟨0, Nat.zero_le _, rfl, _, HI0.out⟩
  case round =>
    clear HI0
    obtain ⟨i, hi, rfl, g, hI⟩ := hrel
    have HI := Lib.hid hI
    clear hI
    by_cases hlt : i < M
    · have hlt' : (i : Int) < M := by omega
      obtain ⟨hg, hgr⟩ := pok HI.out.cv.p
      have HG : Hid (g.length = 256) := hg
      -- the front puts its index
      have hal : Mod No wr (wr.alloc (.cells #[.int .u8 (((i : Int) + 1) % 256), .int .u8 (((i : Int) + 1) / 256)] 5)) := (Mod.refl No wr).alloc _
      have hga : (wr.alloc (.cells #[.int .u8 (((i : Int) + 1) % 256), .int .u8 (((i : Int) + 1) / 256)] 5)).heap[wr.heap.size]? = some (.cells ((twoB ((i : Int) + 1)).map (Value.int .u8)).toArray 5 (0, 0)) := heap_alloc_new wr _
      have hW := pwrite_any 0 0 (some ⟨wr.heap.size, 0, none⟩) 2 (twoB ((i : Int) + 1)) _ ((HI.out.cv.no hal).p) (Src.row hga (twoB_range (by omega)))
      rw [(wr_pg (by omega) (by simp [twoB])).1, (wr_pg (by omega) (by simp [twoB])).2] at hW
      rw [show ((0 : Int).toNat) = 0 from rfl] at hW
      obtain ⟨g1, hg1⟩ : ∃ g1, g1 = splice g 0 (twoB ((i : Int) + 1)) := ⟨_, rfl⟩
      have hlk := slots_look (g := g) i (by omega)
      rw [← hg1] at hW hlk
      have HW := Lib.hid hW
      have HLK := Lib.hid hlk
      have HC0 := Lib.hid (HI.out.cv.no hal)
      have HMA := Lib.hid (HI.out.mod.trans hal)
      have HLO := Lib.hid HI.out.lo
      clear hW hga hal hlk hg1 hg hgr HG HI
      go_wp2_with fail
      refine HW.out.mono ?_
      rintro e w2 ⟨rfl, hm2, hp2⟩
      have hc2 := HC0.out.wrote hm2 hp2
      obtain ⟨hgl, hgr⟩ := pok hp2
      have HGL := Lib.hid hgl
      have HGR := Lib.hid hgr
      have HM2 : Hid (Mod No w w2) := HMA.out.step hm2 (fun j hj (e : j = F) => by have := HLO.out; omega)
      have HC2 := Lib.hid hc2.1
      clear hm2 hp2 hc2 HW HC0 HMA hgl hgr
      -- the page is read
      have HRD := Lib.hid (read_in 0 0 256 { ownFr with bytes := g1 } w2 HC2.out.p ⟨by simp [pgF], by omega, by omega, by omega⟩ rfl)
      go_wp2_with fail
      refine HRD.out.mono ?_
      rintro e w3 ⟨rfl, hm3, hs3, hg3⟩
      have hgo : w3.heap[w2.heap.size]? = some (.cells (g1.map (Value.int .u8)).toArray 5 (0, 0)) := by
        rw [hg3]
        have : (g1.drop (0 : Int).toNat).take (256 : Int).toNat = g1 := List.take_of_length_le (by rw [show (g1.drop (0 : Int).toNat) = g1 from rfl, HGL.out]; exact Nat.le_refl _)
        show some (Obj.cells (((g1.drop (0 : Int).toNat).take (256 : Int).toNat).map (Value.int .u8)).toArray 5 (0, 0)) = _
        rw [this]
      have HGO := Lib.hid hgo
      have HM3 := Lib.hid (HM2.out.trans hm3)
      have HC3 := Lib.hid (HC2.out.no hm3)
      have hob : w2.heap.size ≠ F ∧ w2.heap.size ≠ vk.V ∧ w2.heap.size ≠ b := by
        have h1 := HC2.out.p.ltF
        have h2 := lt_of_blk HC2.out.v.head
        have h3 := HC2.out.bk.lt
        omega
      have HOB := Lib.hid hob
      clear hob hm3 hs3 hg3 hgo HRD HC2 HM2
      -- Look, Take
      have hd0 : dueAt ([] : List Pk) (2 * (i : Int)) = [] := rfl
      have hla := look_any w3 HC3.out ⟨by omega, by omega⟩ (by simp)
      rw [show pokes (dueAt ([] : List Pk) (2 * (i : Int))) (pgF g1) = pgF g1 from rfl, HLK.out] at hla
      have HLA := Lib.hid hla
      clear hla hd0
      go_wp2_with fail
      refine HLA.out.mono ?_
      rintro e w4 ⟨rfl, hc4, hm4⟩
      have HC4 := Lib.hid hc4
      have HGO4 := Lib.hid (hm4.blk HGO.out (fun q => q.elim HOB.out.1 (fun q => q.elim HOB.out.2.1 HOB.out.2.2)))
      have HM4 : Hid (Mod No w w4) := HM3.out.step hm4 (fun j hj q => by
        have h1 := HLO.out
        have h2 := HC3.out.v.d.rng
        rcases q with q | q | q <;> omega)
      have hnb : ¬ (⟨0, i, i, (i : Int) + 1⟩ : Bk).busy := by
        unfold Bk.busy Bk.wait Bk.btw
        simp only
        omega
      have HTK := Lib.hid (take_ok { ownFr with bytes := g1 } w4 hc4 hnb ⟨by omega, by omega⟩ (by simp) (by simp [pgF]) (by rfl))
      clear hc4 hm4 hnb HC3 HM3 HLA HGO HLK
      go_wp2_with fail
      refine HTK.out.mono ?_
      rintro e w5 ⟨gr, rfl, hrl, hrs, hgr5, hc5, hm5⟩
      obtain ⟨m, hmm⟩ : ∃ m, m = i % 8 := ⟨_, rfl⟩
      have hlo : 16 + 16 * ((i : Int) % 8) = ((16 + 16 * m : Nat) : Int) := by omega
      have hlo2 : 32 + 16 * ((i : Int) % 8) = ((16 + 16 * m : Nat) : Int) + 16 := by omega
      have HGO5 := Lib.hid (hm5.blk HGO4.out (fun q => q.elim HOB.out.1 (fun q => q.elim HOB.out.2.1 HOB.out.2.2)))
      have HC5 := Lib.hid hc5
      have HM5 : Hid (Mod No w w5) := HM4.out.step hm5 (fun j hj q => by
        have h1 := HLO.out
        have h2 := HC4.out.v.d.rng
        rcases q with q | q | q <;> omega)
      have hsl : ((⟨0, i, i, (i : Int) + 1⟩ : Bk).slot).toNat = 16 + 16 * m := by simp only [Bk.slot]; omega
      rw [hsl] at hgr5
      obtain ⟨xs, hxs⟩ : ∃ xs, xs = (g1.drop (16 + 16 * m)).take 16 := ⟨_, rfl⟩
      have hgr6 : w5.heap[gr]? = some (.cells (xs.map (Value.int .u8)).toArray 5 (0, 0)) := by rw [hxs]; exact hgr5
      have hxl : xs.length = 16 := by rw [hxs]; simp [HGL.out]; omega
      have hm8 : m ≤ 7 := by omega
      have hv1 : ∀ q, (convert 31 9 (.slice (some ⟨gr, 0, none⟩) 16 16)).run Try.prog (w5.drewN q) = .ok (.string (strOfNums xs)) (w5.drewN q) := fun q => conv_row (w := w5.drewN q) hgr6 0 16 16 xs (by rw [List.drop_zero, List.take_of_length_le (by omega)]) (by omega)
      have hv2 : ∀ q, (convert 31 9 (.slice (some ⟨w2.heap.size, 16 + 16 * m, none⟩) 16 (256 - (16 + 16 * m)))).run Try.prog (w5.drewN q) = .ok (.string (strOfNums xs)) (w5.drewN q) := fun q => conv_row (w := w5.drewN q) HGO5.out (16 + 16 * m) 16 _ xs hxs (by rw [HGL.out]; omega)
      have t1 : (0 : Int) ≤ ((16 + 16 * m : Nat) : Int) + 16 := by omega
      have t2 : (((16 + 16 * m : Nat) : Int) + 16).toNat = 16 + 16 * m + 16 := by omega
      have t3 : 16 + 16 * m ≤ 16 + 16 * m + 16 := by omega
      have t4 : 16 + 16 * m + 16 - (16 + 16 * m) = 16 := by omega
      have t5 : ((16 + 16 * m : Nat) : Int) + 16 ≤ 256 := by omega
      have t6 : 256 ≠ 16 + 16 * m := by omega
      have t7 : ((16 + 16 * m : Nat) : Int) ≤ ((16 + 16 * m : Nat) : Int) + 16 := by omega
      have HX := Lib.hid hxs
      clear hgr5 hgr6 hsl hc5 hm5 HC4 HGO4 HM4 HTK hrl hrs hxs hxl
      generalize hL : 16 + 16 * m = L at *
      go_wp2_with fail
      go_quiet (fail)
      have HM5d : Hid (Mod No w5 (w5.drewN nq)) := (Mod.refl No w5).drewN nq
      have htk : (⟨0, i, i, (i : Int) + 1⟩ : Bk).took = ⟨0, (i : Int) + 1, i, (i : Int) + 1⟩ := by unfold Bk.took; congr 1; simp only; omega
      have hc5d := HC5.out.no HM5d.out
      rw [htk, show (2 * (i : Int) + 1 + 1) = 2 * ((i : Int) + 1) by omega, show pokes (dueAt ([] : List Pk) (2 * (i : Int) + 1)) (pgF g1) = pgF g1 from rfl] at hc5d
      have HC6 := Lib.hid hc5d
      have HGO6 := Lib.hid (HM5d.out.blk HGO5.out (fun q => q))
      have HM6 := Lib.hid (HM5.out.trans HM5d.out)
      clear HC5 HGO5 HM5 hv1 hv2 hc5d htk
      generalize w5.drewN nq = w6 at HM5d HC6 HGO6 HM6 ⊢
      have hsl8 := slot8_in 8 (by omega) ((i : Int) % 256) w6
      have HSL8 := Lib.hid hsl8
      clear hsl8
      go_wp2_with fail
      refine HSL8.out.mono ?_
      rintro e w7 ⟨rfl, hm7, hs7, hg7⟩
      obtain ⟨ans, hans⟩ : ∃ ans, ans = slotB 8 ((i : Int) % 256) := ⟨_, rfl⟩
      rw [← hans] at hg7
      have hal8 : ans.length = 8 := by rw [hans, slotB_len]
      have har : ∀ x ∈ ans, 0 ≤ x ∧ x ≤ 255 := by rw [hans]; exact slotB_range _ _
      have HC7 := Lib.hid (HC6.out.no hm7)
      have HG7 := Lib.hid hg7
      have HGO7 := Lib.hid (hm7.blk HGO6.out (fun q => q))
      have HM7 := Lib.hid (HM6.out.trans hm7)
      have HAB : Hid (w6.heap.size ≠ F ∧ w6.heap.size ≠ vk.V ∧ w6.heap.size ≠ b) := by
        have h1 := HC6.out.p.ltF
        have h2 := lt_of_blk HC6.out.v.head
        have h3 := HC6.out.bk.lt
        exact ⟨by omega, by omega, by omega⟩
      have haa := ans_ok (some ⟨w6.heap.size, 0, none⟩) ans 8 w7 HC7.out (by unfold Bk.btw; simp only; omega) hal8 (Src.row hg7 har)
      have hai := slots_ans (g := g1) i (by omega) ans hal8
      rw [← hmm] at hai
      rw [hai, show (⟨0, (i : Int) + 1, i, (i : Int) + 1⟩ : Bk).laid = bkI (((i + 1 : Nat)) : Int) by unfold Bk.laid bkI; simp only; congr 1; omega] at haa
      have HAA := Lib.hid haa
      have HAN := Lib.hid hans
      clear haa hai hm7 hs7 hg7 HC6 HGO6 HM6 HM5d HSL8 hans
      go_wp2_with fail
      refine HAA.out.mono ?_
      rintro e w8 ⟨rfl, hc8, hm8⟩
      have HC8 := Lib.hid hc8
      have HGO8 := Lib.hid (hm8.blk HGO7.out (fun q => q.elim HOB.out.1 (fun q => q.elim HOB.out.2.1 HOB.out.2.2)))
      have HG8 := Lib.hid (hm8.blk HG7.out (fun q => q.elim HAB.out.1 (fun q => q.elim HAB.out.2.1 HAB.out.2.2)))
      have HM8 : Hid (Mod No w w8) := HM7.out.step hm8 (fun j hj q => by
        have h1 := HLO.out
        have h2 := HC7.out.v.d.rng
        rcases q with q | q | q <;> omega)
      clear hc8 hm8 HC7 HG7 HGO7 HM7 HAA
      -- a copy of the page
      have HBY : Hid (Byt (w8.alloc (.cells #[] 5)) (some ⟨w2.heap.size, 0, none⟩) g1 256) :=
        ⟨HGR.out, by rw [HGL.out]; exact Nat.le_refl _, by rw [HGL.out]; omega, (fun q => by cases q), fun _ => ⟨w2.heap.size, 0, rfl, by have := lt_of_blk HGO8.out; simp only [World.size_alloc]; omega, fun j x hj => by rw [Nat.zero_add, row_cell (blk_alloc HGO8.out _), List.getElem?_map, hj]; rfl⟩⟩
      have hlen : ([] : List Int).length + g1.length ≤ 140737488355328 := by rw [HGL.out]; simp
      have HLEN := Lib.hid hlen
      clear hlen
      go_upto_region 23 with (at_builtin; refine wpList_append_byt rfl _ _ rfl w8.heap.size _ [] rfl (own_empty (heap_alloc_new w8 (.cells #[] 5)) (Nat.le_refl _)) (some ⟨w2.heap.size, 0, none⟩) g1 256 (by rw [HGL.out]; rfl) HBY.out HLEN.out (by simp) ?_; intro v' w9 hown9 hgr9; rw [List.nil_append, HGL.out] at hown9; obtain ⟨q9, c9, rfl⟩ := owns_slice hown9; have HG9 := Lib.hid hgr9; have HO9 := Lib.hid hown9; clear hown9 hgr9)
      obtain ⟨wb, cap, rest, e9, hcap, hwb, hrow9⟩ := own_front HO9.out (by omega)
      cases e9
      have hm89 : Mod No w8 w9 := ((Mod.refl No w8).alloc _).grown HG9.out (fun j ej hj => by cases ej; exact absurd hj (Nat.lt_irrefl _))
      have HR9 := Lib.hid hrow9
      have HCAP := Lib.hid hcap
      have HAL9 : Hid (∃ wo : World, wo.heap.size ≤ wb ∧ CV B F b base top vk (2 * ((i : Int) + 1)) [] (pgF (splice (splice g1 (144 + 8 * m) ans) 2 (twoB ((i : Int) + 1)))) (bkI ((i + 1 : Nat) : Int)) wo ∧ Mod No w wo ∧ wo.heap[w6.heap.size]? = some (.cells (ans.map (Value.int .u8)).toArray 5 (0, 0)) ∧ Mod No wo w9) := ⟨w8, hwb, HC8.out, HM8.out, HG8.out, hm89⟩
      have hb144 : 144 + 8 * ((i : Int) % 8) = ((144 + 8 * m : Nat) : Int) := by omega
      have hP0 : splice g1 (144 + 8 * m) (ans.take 0) = g1 := by simp [splice]
      rw [← hP0] at HR9
      clear HC8 HGO8 HG8 HM8 HBY HLEN HO9 HG9 hrow9 hm89 hwb hcap hP0
      generalize hP : 144 + 8 * m = P at *
      have hP8 : P ≤ 200 := by omega
      generalize w6.heap.size = sb at HAB HAL9 ⊢
      generalize w2.heap.size = ob at HOB ⊢
      go_wp2_with fail
      go_loopw [24] (fun v wx => ∃ j : Nat, j ≤ 8 ∧ v = .int .i64 j ∧ wx.heap[wb]? = some (.cells ((splice g1 P (ans.take j)).map (Value.int .u8) ++ rest).toArray 5 (0, 0)) ∧
        ∃ wo : World, wo.heap.size ≤ wb ∧ CV B F b base top vk (2 * ((i : Int) + 1)) [] (pgF (splice (splice g1 P ans) 2 (twoB ((i : Int) + 1)))) (bkI ((i + 1 : Nat) : Int)) wo ∧ Mod No w wo ∧ wo.heap[sb]? = some (.cells (ans.map (Value.int .u8)).toArray 5 (0, 0)) ∧ Mod No wo wx) (fun v _ => 8 - (intOf v).toNat)
      case atStart => exact ⟨0, by omega, rfl, HR9.out, HAL9.out⟩
      case round =>
        clear HR9 HAL9
        obtain ⟨j, hj, rfl, hrow, wo, hwo, hcv, hmo, hsb, hmx⟩ := hrel
        have HROW := Lib.hid hrow
        have HCV := Lib.hid hcv
        have HMO := Lib.hid hmo
        have HSB := Lib.hid hsb
        have HMX := Lib.hid hmx
        have hsl : (splice g1 P (ans.take j)).length = 256 := by rw [length_splice _ _ _ (by rw [HGL.out]; simp; omega), HGL.out]
        by_cases hj8 : j < 8
        · have hj8' : (j : Int) < 8 := by omega
          obtain ⟨x, hx⟩ : ∃ x, ans[j]? = some x := ⟨_, List.getElem?_eq_getElem (by omega)⟩
          have hca := (row_cell (hmx.blk hsb (fun q => q)) j).trans (by rw [List.getElem?_map, hx]; rfl : (ans.map (Value.int .u8))[j]? = some (.int .u8 x))
          obtain ⟨x0, hx0⟩ := front_cell hrow (P + j) (by rw [hsl]; omega)
          have hfz := row_free hrow (P + j)
          have h3 := front_set hrow (P + j) (by rw [hsl]; omega) x
          rw [splice_step (by rw [HGL.out, hal8]; omega) hx] at h3
          have H3 := Lib.hid h3
          have q1 : (P : Int) + j < 256 := by omega
          have q2 : (0 : Int) ≤ (P : Int) + j := by omega
          have q3 : ((P : Int) + j).toNat = P + j := by omega
          clear h3 hx hrow hcv hmo hsb hmx hsl
          go_wp2_with fail
          go_roundw
          case rel => exact ⟨j + 1, by omega, by go_num, H3.out, wo, hwo, HCV.out, HMO.out, HSB.out, HMX.out.setCell (p := ⟨wb, P + j, none⟩) (fun q => absurd q (Nat.not_lt.2 hwo)) _⟩
          case measure => simp [intOf]; omega
        · obtain rfl : j = 8 := by omega
          rw [List.take_of_length_le (by omega)] at hrow hsl
          obtain ⟨x2, hx2⟩ := front_cell hrow 2 (by rw [hsl]; omega)
          have hf2 := row_free hrow 2
          have h4 := front_set hrow 2 (by rw [hsl]; omega) (((i : Int) + 1) % 256)
          have hne : (⟨wb, 2, none⟩ : Addr) ≠ ⟨wb, 3, none⟩ := by intro e; cases e
          obtain ⟨x3, hx3⟩ := front_cell h4 3 (by rw [List.length_set, hsl]; omega)
          have hf3 := row_free h4 3
          have h5 := front_set h4 3 (by rw [List.length_set, hsl]; omega) (((i : Int) + 1) / 256)
          rw [← splice_two hsl, show ([((i : Int) + 1) % 256, ((i : Int) + 1) / 256] : List Int) = twoB ((i : Int) + 1) from rfl] at h5
          have H5 := Lib.hid h5
          have HMX5 : Hid (Mod No wo ((wr.setCell ⟨wb, 2, none⟩ (.int .u8 (((i : Int) + 1) % 256))).setCell ⟨wb, 3, none⟩ (.int .u8 (((i : Int) + 1) / 256)))) :=
            (hmx.setCell (p := ⟨wb, 2, none⟩) (fun q => absurd q (Nat.not_lt.2 hwo)) _).setCell (p := ⟨wb, 3, none⟩) (fun q => absurd q (Nat.not_lt.2 hwo)) _
          clear h4 h5 hrow hcv hmo hsb hmx hsl
          go_upto_region 29 with (fail)
          generalize ((wr.setCell ⟨wb, 2, none⟩ (.int .u8 (((i : Int) + 1) % 256))).setCell ⟨wb, 3, none⟩ (.int .u8 (((i : Int) + 1) / 256))) = wz at H5 HMX5 ⊢
          obtain ⟨g3, hg3⟩ : ∃ g3, g3 = splice (splice g1 P ans) 2 (twoB ((i : Int) + 1)) := ⟨_, rfl⟩
          rw [← hg3] at H5 HCV
          have HCZ := Lib.hid (HCV.out.no HMX5.out)
          have HMZ := Lib.hid (HMO.out.trans HMX5.out)
          obtain ⟨hgl3, _⟩ := pok HCZ.out.p
          have hrd := read_in 0 0 256 { ownFr with bytes := g3 } wz HCZ.out.p ⟨by simp [pgF], by omega, by omega, by omega⟩ rfl
          have HRD := Lib.hid hrd
          have HGL3 := Lib.hid hgl3
          clear hx2 hf2 hx3 hf3 hne hrd hgl3 hg3 HROW HSB HMX HCV HMO HMX5 hwo
          go_wp2_with fail
          refine HRD.out.mono ?_
          rintro e w12 ⟨rfl, hm12, _, hg12⟩
          have hg13 : w12.heap[wz.heap.size]? = some (.cells (g3.map (Value.int .u8)).toArray 5 (0, 0)) := by
            rw [hg12]
            have : (g3.drop (0 : Int).toNat).take (256 : Int).toNat = g3 := List.take_of_length_le (by rw [show (g3.drop (0 : Int).toNat) = g3 from rfl, HGL3.out]; exact Nat.le_refl _)
            show some (Obj.cells (((g3.drop (0 : Int).toNat).take (256 : Int).toNat).map (Value.int .u8)).toArray 5 (0, 0)) = _
            rw [this]
          have hv1 : (convert 31 9 (.slice (some ⟨wz.heap.size, 0, none⟩) 256 256)).run Try.prog w12 = .ok (.string (strOfNums g3)) w12 := conv_row hg13 0 256 256 g3 (by rw [List.drop_zero, List.take_of_length_le (by rw [HGL3.out]; exact Nat.le_refl _)]) (by rw [HGL3.out]; exact Nat.le_refl _)
          have hv2 : (convert 31 9 (.slice (some ⟨wb, 0, none⟩) 256 c9)).run Try.prog w12 = .ok (.string (strOfNums g3)) w12 := conv_front (hm12.blk H5.out (fun q => q)) HGL3.out
          have HFIN : Hid (SlotsI w B F b base top vk (i + 1) g3 w12) := ⟨by have := HCZ.out.no hm12; rw [show (2 * ((i : Int) + 1)) = 2 * ((i + 1 : Nat) : Int) by omega] at this; exact this, HMZ.out.trans hm12, HLO.out⟩
          clear hg12 hg13 hm12 HCZ HMZ H5
          go_wp2_with fail
          refine ⟨?_, ?_⟩
          · repeat apply Exists.intro
            refine And.intro ⟨i + 1, by omega, by go_num, g3, HFIN.out⟩ ?_
            rw [hM]
            rfl
          · simp [intOf]; omega
    · obtain rfl : i = M := by omega
      have HTM := Lib.hid (fun w' (hm : Mod No wr w') => taken_made w' (HI.out.cv.bk.no hm))
      have HLM := Lib.hid (fun w' (hm : Mod No wr w') => laid_made w' (HI.out.cv.bk.no hm))
      go_wp2_with (first
        | (go_at_call 53; refine (HTM.out _ (Mod.refl _ _)).mono ?_; rintro e w' ⟨rfl, rfl⟩; simp only [bkI])
        | (go_at_call 54; refine (HLM.out _ (Mod.refl _ _)).mono ?_; rintro e w' ⟨rfl, rfl⟩; simp only [bkI])
        | (go_at_call 55; refine (awake8 _).mono ?_; rintro e w' ⟨rfl, rfl⟩))
      go_ret
      exact ⟨by simp, HI.out.mod⟩

end Go.Proofs.Ytpfjpfepbhfmeaa
