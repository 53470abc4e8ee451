/- tenementlaw01.PhysParts: the walk. -/
import Derived.Test.YthfkpbfapkpnfabLaw01Told
import Derived.Test.YthfkpbfapkpnfabParts
namespace Go.Proofs.Ythfkpbfapkpnfab
open Go.RowKit
set_option maxRecDepth 100000

theorem RoundS.keptNo {w0 w w' : World} {B F n i : Nat} {K : RfK} {S : List Fr} (h : RoundS w0 B F n i K S w) (hm : Mod No w w') : RoundS w0 B F n i K S w' :=
  ⟨⟨h.two.p.kept hm (fun q => q) (fun q => q), h.two.r.keptNo hm, h.two.inv⟩, h.len, h.mod.trans hm, h.F, h.K⟩

set_option maxHeartbeats 4000000 in
theorem parts_out (n : Int) (p : Option Addr) (len cap : Nat) (w : World) (hn : n < 1 ∨ 256 < n) :
    Calls Try.prog 4 #[.int .i64 n, .slice p len cap] w fun e w' => e = .returned (.bool true) ∧ Mod No w w' := by
  go_enter Try.func4, Try.ntmps4
  go_wp2_with (first
    | (go_at_call 27; refine (new_out n _ hn).mono ?_; rintro e w' ⟨rfl, rfl⟩)
    | (go_at_call 28; refine (awake_yes _).mono ?_; rintro e w' ⟨rfl, hm2⟩))
  go_ret
  exact ⟨rfl, hm2⟩

set_option maxHeartbeats 4000000 in
theorem parts_in (N : Nat) (hN1 : 1 ≤ N) (hN2 : N ≤ 256) (p : Option Addr) (ops : List OpD) (cap : Nat) (w : World) (hs : Scr w p ops) (hlen : ops.length * 56 ≤ 140737488355328) :
    Calls Try.prog 4 #[.int .i64 (N : Int), .slice p ops.length cap] w fun e w' => e = .returned (.bool true) ∧ Mod No w w' := by
  have HS := Lib.hid hs; clear hs
  go_enter Try.func4, Try.ntmps4
  go_wp2_with fail
  refine (new_in N _ hN1 hN2).mono ?_
  rintro e w1 ⟨B, F, rfl, hB, hF, hm1, hP1⟩
  go_wp2_with fail
  refine (rnew_in N _ hN1 hN2).mono ?_
  rintro e w2 ⟨K0, rfl, hK, hm2, hR2⟩
  have hm12 := hm1.trans hm2
  have hs1 := hm1.size
  have h0 : RoundS w B F N 0 K0 (List.replicate N freeFr) w2 := ⟨⟨hP1.kept hm2 (fun q => q) (fun q => q), hR2, invS_new _ _⟩, by simp, hm12, hF, fun k hk => by have := hK k hk; omega⟩
  obtain ⟨R0, hR0⟩ : ∃ R0, R0 = K0.R := ⟨_, rfl⟩
  rw [← hR0]
  have HR0 := Lib.hid hR0
  clear hR0 hP1 hR2 hm1 hm2 hm12 hK
  go_wp2_with fail
  go_loopw [9] (fun v wr => ∃ i : Nat, i ≤ ops.length ∧ v = .int .i64 i ∧ ∃ K S, RoundS w B F N i K S wr ∧ K.R = R0) (fun v _ => ops.length - (intOf v).toNat)
  case atStart => exact ⟨0, Nat.zero_le _, rfl, K0, _, h0, HR0.out.symm⟩
  case round =>
    obtain ⟨i, hi, rfl, K, S, hrd, hKR⟩ := hrel
    clear h0
    by_cases hlt : i < ops.length
    · obtain ⟨o, ho⟩ : ∃ o, ops[i]? = some o := ⟨_, List.getElem?_eq_getElem hlt⟩
      have hscr := HS.out.kept hrd.mod
      obtain ⟨sb, so, rfl, c0, c1, c2, c3, c4⟩ := hscr.cells5 ho
      have hok := HS.out.ok o (List.mem_of_getElem? ho)
      have hbts := hok.bts hrd.mod hrd.F hrd.K
      have hpl := play_any (m := i) (by omega) o.what o.a o.b o.c o.q o.bs o.cap wr hrd.two hbts hok.len
      rw [hKR] at hpl
      have HPL := Lib.hid hpl
      have HRD := Lib.hid hrd
      have HKR := Lib.hid hKR
      clear hpl hrd hKR hbts hok hscr ho
      go_wp2_with fail
      refine HPL.out.mono ?_
      rintro e w3 ⟨rfl, ht3⟩
      obtain ⟨K3, S3, hrd3, hK3⟩ := HRD.out.play ht3
      have hKR3 : K3.R = R0 := by rw [hK3, HKR.out]
      have HRD3 := Lib.hid hrd3
      clear ht3 hK3 HPL HRD HKR hrd3
      go_wp2_with fail
      go_loopw [10, 11] (fun va v wx => ∃ t : Int, -2 ≤ t ∧ t ≤ 8 ∧ v = .int .i64 t ∧ va = .int .i64 (below S3 t N : Int) ∧ Mod No w3 wx) (fun _ v _ => (8 - intOf v).toNat)
      case atStart => exact ⟨-2, by omega, by omega, rfl, by rw [below_low S3 (fun f hf => (HRD3.out.two.inv f hf).own.1)]; rfl, Mod.refl _ _⟩
      case round =>
        obtain ⟨t, ht0, ht1, rfl, rfl, hmx⟩ := hrel
        have hPx := HRD3.out.two.p.kept hmx (fun q => q) (fun q => q)
        have hlenS := HRD3.out.len
        by_cases hlt2 : t < 8
        · have d1 : decide (t < 8) = true := decide_eq_true hlt2
          go_wp2_with fail
          refine (owned_in t _ hPx).mono ?_
          rintro e w5 ⟨v1, rfl, hown1, hb1⟩
          have hm5 := Mod.of_below (P := No) hb1
          obtain ⟨q1, p1, rfl⟩ := owns_slice hown1
          obtain ⟨L, hL⟩ : ∃ L, L = (idxs S3 t S3.length).length := ⟨_, rfl⟩
          rw [← hL] at hown1 ⊢
          have hst := below_step S3 t N
          rw [← hlenS, ← hL] at hst
          rw [hlenS] at hst
          have hbn : below S3 t N ≤ 256 := Nat.le_trans (below_le S3 t N) hN2
          have hLn : L ≤ 256 := by have := idxs_len S3 t S3.length; omega
          have hP5 := hPx.kept hm5 (fun q => q) (fun q => q)
          have hm35 := hmx.trans hm5
          have HL := Lib.hid hL
          clear hL hb1 hm5 hPx hmx
          go_wp2_with fail
          go_loopw [13] (fun v wy => ∃ j : Nat, j ≤ L ∧ v = .int .i64 j ∧ Mod No w5 wy) (fun v _ => L - (intOf v).toNat)
          case atStart => exact ⟨0, Nat.zero_le _, rfl, Mod.refl _ _⟩
          case round =>
            obtain ⟨j, hj, rfl, hmy⟩ := hrel
            by_cases hjl : j < L
            · obtain ⟨x, hx⟩ : ∃ x, (idxs S3 t S3.length)[j]? = some x := ⟨_, List.getElem?_eq_getElem (by rw [← HL.out]; exact hjl)⟩
              obtain ⟨k, rfl, hkn, hown⟩ := idxs_owns S3 t S3.length x (List.mem_of_getElem? hx)
              obtain ⟨f, hf⟩ : ∃ f, S3[k]? = some f := ⟨_, List.getElem?_eq_getElem hkn⟩
              have hfo : f.owner = t := by simpa [ownsAt, hf] using hown
              have hv := HRD3.out.two.inv f (List.mem_of_getElem? hf)
              have hPy := hP5.kept hmy (fun q => q) (fun q => q)
              obtain ⟨g, cg, e1, _, hcg, hgb, hxc⟩ := row_item (own_no hown1 hmy) j k hx
              cases e1
              go_wp2_with fail
              refine (frame_in k f _ hPy (by omega) (by rw [Int.toNat_natCast]; exact hf)).mono ?_
              rintro e w6 ⟨rfl, hm6⟩
              have hP6 := hPy.kept hm6 (fun q => q) (fun q => q)
              have hmw6 := hmy.trans hm6
              have hltg : g < wr.heap.size := World.block_lt_of_cell? wr _ hxc
              have hlt6 : g < w6.heap.size := Nat.lt_of_lt_of_le hltg hm6.size
              have hxc6 := (World.cell?_of_block (w := wr) (hm6.block g (World.block_lt_of_cell? wr _ hxc) (fun q => q))).trans hxc
              have hcnt := hv.count
              have hz := hv.zero
              have d2 : (f.owner != t) = false := by simp [hfo]
              have d3 : decide (f.count < 0) = false := decide_eq_false (by omega)
              have d4 : decide (f.total < f.count) = false := decide_eq_false (by omega)
              have d5 : (f.count == 0) = (f.type == 0) := by
                by_cases q : f.count = 0
                · rw [beq_iff_eq.2 q, beq_iff_eq.2 (hz.1 q)]
                · rw [beq_eq_false_iff_ne.2 q, beq_eq_false_iff_ne.2 (fun r => q (hz.2 r))]
              have hfree := hv.free
              have HCL : Hid (f.owner = -1 → ∀ w', Mod No w6 w' → Calls Try.prog 31 #[.pointer (some ⟨B, 0, none⟩), .int .i64 (k : Int)] w' fun e w2 => e = .returned (.bool true) ∧ Mod No w' w2) := by
                intro ho w' hm
                exact clean_yes k f w' (hP6.kept hm (fun q => q) (fun q => q)) (by omega) (by rw [Int.toNat_natCast]; exact hf) (by rw [hfree ho]; exact allZero_free)
              have hmw7 := hmw6.alloc (.cells #[.int .i64 f.owner, .int .i64 f.type, .int .i64 f.count, .int .i64 f.total] 30)
              have hf7 := heap_alloc_new w6 (.cells #[.int .i64 f.owner, .int .i64 f.type, .int .i64 f.count, .int .i64 f.total] 30)
              have hm67 : Mod No w6 (w6.alloc (.cells #[.int .i64 f.owner, .int .i64 f.type, .int .i64 f.count, .int .i64 f.total] 30)) := (Mod.refl No w6).alloc _
              have x0 := row_cell (l := f.head) hf7 0
              have x1 := row_cell (l := f.head) hf7 1
              have x2 := row_cell (l := f.head) hf7 2
              have x3 := row_cell (l := f.head) hf7 3
              simp only [Fr.head, List.getElem?_cons_zero, List.getElem?_cons_succ] at x0 x1 x2 x3
              have hxc7 := (World.cell?_of_block (w := w6) (hm67.block g hlt6 (fun q => q))).trans hxc6
              have b3 : (0 : Int) ≤ j := by omega
              have b4 : (j : Int) < L := by omega
              have hprev : 0 < j → ∃ y : Int, wr.cell? ⟨g, j - 1, none⟩ = some (.int .i64 y) ∧ y < k := by
                intro h0
                obtain ⟨y, hy⟩ : ∃ y, (idxs S3 t S3.length)[j - 1]? = some y := ⟨_, List.getElem?_eq_getElem (by rw [← HL.out]; omega)⟩
                obtain ⟨g', cg', e1, _, _, _, hyc⟩ := row_item (own_no hown1 hmy) (j - 1) y hy
                cases e1
                exact ⟨y, hyc, idxs_lt hy (by rw [show j - 1 + 1 = j by omega]; exact hx)⟩
              have d6 : (f.total != 0) = true ∨ f.owner = -1 → f.owner = -1 → (f.total != 0) = false := by
                intro _ q
                rw [hfree q]; rfl
              have HP := Lib.hid hprev
              have HC6 : Hid (∀ q, wr.cell? ⟨g, j - 1, none⟩ = some q → w6.cell? ⟨g, j - 1, none⟩ = some q) := fun q hq => (World.cell?_of_block (w := wr) (hm6.block g hltg (fun q => q))).trans hq
              have HT := Lib.hid (fun q => d6 (.inr q) q)
              have HO := Lib.hid hfo
              have HM := Lib.hid hmw7
              clear hprev d6 hfo hfree hv hm6 hP6 hPy hx hf hown hz hmw6 hxc hxc6 hm67 hf7 hmw7 hmy hown1 hP5 hm35 hltg hlt6 hst
              go_wp2_with fail
              by_cases ht : t = -1
              · have hfm := HO.out.trans ht
                have d7 := HT.out hfm
                have HC := Lib.hid (HCL.out hfm)
                clear hfm
                subst ht
                by_cases hj0 : j = 0
                · subst hj0
                  go_quiet (fail)
                  go_wp2_with (go_at_call 31; refine (HC.out _ (((Mod.refl No w6).alloc _).drewN _)).mono ?_; rintro e w8 ⟨rfl, hm8⟩)
                  go_roundw
                  case rel => exact ⟨1, by omega, by rfl, (HM.out.drewN _).trans hm8⟩
                  case measure => simp [intOf]; omega
                · obtain ⟨y, hyc, hyk⟩ := HP.out (by omega)
                  have hyc7 : (w6.alloc (.cells #[.int .i64 f.owner, .int .i64 f.type, .int .i64 f.count, .int .i64 f.total] 30)).cell? ⟨g, j - 1, none⟩ = some (.int .i64 y) := (World.cell?_of_block (w := w6) (((Mod.refl No w6).alloc _).block g (World.block_lt_of_cell? w6 _ (HC6.out _ hyc)) (fun q => q))).trans (HC6.out _ hyc)
                  have q1 : IntKind.i64.wrap ((j : Int) - 1) = (j : Int) - 1 := IntWalk.i64_in _ (by omega)
                  have q2 : (0 : Int) ≤ (j : Int) - 1 := by omega
                  have q3 : ((j : Int) - 1).toNat = j - 1 := by omega
                  have q4 : (j : Int) - 1 < L := by omega
                  have q5 : decide ((0 : Int) < j) = true := decide_eq_true (by omega)
                  have q7 : decide (0 < j) = true := decide_eq_true (by omega)
                  have q8 : (1 : Int) ≤ j := by omega
                  have q6 : decide ((k : Int) ≤ y) = false := decide_eq_false (by omega)
                  clear hyc hyk
                  go_quiet (fail)
                  clear q1 q3
                  go_wp2_with (go_at_call 31; refine (HC.out _ (((Mod.refl No w6).alloc _).drewN _)).mono ?_; rintro e w8 ⟨rfl, hm8⟩)
                  go_roundw
                  case rel => exact ⟨j + 1, by omega, by go_num, (HM.out.drewN _).trans hm8⟩
                  case measure => simp [intOf]; omega
              · have d7 : (t == -1) = false := beq_eq_false_iff_ne.2 ht
                clear ht
                by_cases hj0 : j = 0
                · subst hj0
                  go_quiet (fail)
                  go_wp2
                  go_roundw
                  case rel => exact ⟨1, by omega, by rfl, HM.out.drewN _⟩
                  case measure => simp [intOf]; omega
                · obtain ⟨y, hyc, hyk⟩ := HP.out (by omega)
                  have hyc7 : (w6.alloc (.cells #[.int .i64 f.owner, .int .i64 f.type, .int .i64 f.count, .int .i64 f.total] 30)).cell? ⟨g, j - 1, none⟩ = some (.int .i64 y) := (World.cell?_of_block (w := w6) (((Mod.refl No w6).alloc _).block g (World.block_lt_of_cell? w6 _ (HC6.out _ hyc)) (fun q => q))).trans (HC6.out _ hyc)
                  have q1 : IntKind.i64.wrap ((j : Int) - 1) = (j : Int) - 1 := IntWalk.i64_in _ (by omega)
                  have q2 : (0 : Int) ≤ (j : Int) - 1 := by omega
                  have q3 : ((j : Int) - 1).toNat = j - 1 := by omega
                  have q4 : (j : Int) - 1 < L := by omega
                  have q5 : decide ((0 : Int) < j) = true := decide_eq_true (by omega)
                  have q7 : decide (0 < j) = true := decide_eq_true (by omega)
                  have q8 : (1 : Int) ≤ j := by omega
                  have q6 : decide ((k : Int) ≤ y) = false := decide_eq_false (by omega)
                  clear hyc hyk
                  go_quiet (fail)
                  clear q1 q3
                  go_wp2
                  go_roundw
                  case rel => exact ⟨j + 1, by omega, by go_num, HM.out.drewN _⟩
                  case measure => simp [intOf]; omega
            · obtain rfl : j = L := by omega
              have hst2 : (below S3 (t + 1) N : Int) = (below S3 t N : Int) + (j : Int) := by omega
              have hmm := hm35.trans hmy
              clear hown1 hP5
              go_wp2
              go_roundw
              case rel => exact ⟨t + 1, by omega, by omega, rfl, by rw [hst2], hmm⟩
              case measure => simp [intOf]; omega
        · obtain rfl : t = 8 := by omega
          have hbh : (below S3 8 N : Int) = N := by rw [below_high S3 (fun f hf => (HRD3.out.two.inv f hf).own.2) N (by omega)]
          rw [hbh]
          have dN : ((N : Int) != N) = false := by simp
          have HKR3 := Lib.hid hKR3
          clear hbh hKR3 hlenS
          go_wp2_with fail
          refine (left_in _ hPx).mono ?_
          rintro e w5 ⟨rfl, hb5⟩
          have hm5 := Mod.of_below (P := No) hb5
          have hP5 := hPx.kept hm5 (fun q => q) (fun q => q)
          have hm35 := hmx.trans hm5
          clear hPx hmx hb5 hm5
          go_wp2_with fail
          refine (owned_in (-1) _ hP5).mono ?_
          rintro e w6 ⟨v1, rfl, hown1, hb1⟩
          have hm6 := hm35.trans (Mod.of_below (P := No) hb1)
          obtain ⟨q1, p1, rfl⟩ := owns_slice hown1
          obtain ⟨L, hL⟩ : ∃ L, L = (idxs S3 (-1) S3.length).length := ⟨_, rfl⟩
          rw [← hL]
          have dL : ((L : Int) != L) = false := by simp
          have HR6 := Lib.hid (HRD3.out.keptNo hm6)
          clear hL hown1 hb1 hP5 hm35 hm6
          go_wp2
          go_roundw
          case rel => exact ⟨i + 1, by omega, by go_num, K3, S3, HR6.out, HKR3.out⟩
          case measure => simp [intOf]; omega
    · obtain rfl : i = ops.length := by omega
      have hmod := hrd.mod
      clear hrd
      go_wp2_with (go_at_call 28; refine (awake_yes _).mono ?_; rintro e w' ⟨rfl, hm2⟩)
      go_ret
      exact ⟨rfl, hmod.trans hm2⟩

theorem parts_any (n : Int) (p : Option Addr) (ops : List OpD) (cap : Nat) (w : World) (hs : Scr w p ops) (hlen : ops.length * 56 ≤ 140737488355328) :
    Calls Try.prog 4 #[.int .i64 n, .slice p ops.length cap] w fun e w' => e = .returned (.bool true) ∧ Mod No w w' := by
  by_cases hn : n < 1 ∨ 256 < n
  · exact parts_out n p _ cap w hn
  · obtain ⟨N, rfl⟩ : ∃ N : Nat, n = N := ⟨n.toNat, by omega⟩
    exact parts_in N (by omega) (by omega) p ops cap w hs hlen

end Go.Proofs.Ythfkpbfapkpnfab
