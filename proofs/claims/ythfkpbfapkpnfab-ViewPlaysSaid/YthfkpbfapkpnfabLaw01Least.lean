/- tenementlaw01.awake, PhysLeast: the walks. -/
import Derived.Test.YthfkpbfapkpnfabScript
import Derived.Test.YthfkpbfapkpnfabRound
import Derived.Test.YthfkpbfapkpnfabLaw01Clean
namespace Go.Proofs.Ythfkpbfapkpnfab
open Go.RowKit
set_option maxRecDepth 100000

theorem idx_two : (idxs (List.replicate 2 freeFr) (-1) (List.replicate 2 freeFr).length).length = 2 := rfl

theorem awake_yes (w : World) : Calls Try.prog 28 #[] w fun e w' => e = .returned (.bool true) ∧ Mod No w w' := by
  have HL : Hid (∀ (w : World) (B F : Nat), PhM w B F (List.replicate 2 freeFr) → Calls Try.prog 25 #[.pointer (some ⟨B, 0, none⟩)] w fun e W' => e = .returned (.int .i64 2) ∧ Mod No w W') := by
    intro w B F h
    refine (left_in w h).mono ?_
    rintro e w' ⟨rfl, hb⟩
    rw [idx_two]
    exact ⟨rfl, Mod.of_below hb⟩
  go_enter Try.func28, Try.ntmps28
  go_wp2_with fail
  refine (new_in 2 _ (by omega) (by omega)).mono ?_
  rintro e w1 ⟨B, F, rfl, hB, hF, hm1, hP1⟩
  go_wp2_with (go_at_call 25; refine (HL.out _ B F hP1).mono ?_; rintro e w' ⟨rfl, hm2⟩)
  go_ret
  exact ⟨rfl, hm1.trans hm2⟩

theorem Scr.cells5 {w : World} {p : Option Addr} {ops : List OpD} (h : Scr w p ops) {i : Nat} {o : OpD} (hi : ops[i]? = some o) : ∃ b off, p = some ⟨b, off, none⟩ ∧
    w.cell? ⟨b, off + i * 5, none⟩ = some (.int .i64 o.what) ∧ w.cell? ⟨b, off + i * 5 + 1, none⟩ = some (.int .i64 o.a) ∧ w.cell? ⟨b, off + i * 5 + 2, none⟩ = some (.int .i64 o.b) ∧
    w.cell? ⟨b, off + i * 5 + 3, none⟩ = some (.int .i64 o.c) ∧ w.cell? ⟨b, off + i * 5 + 4, none⟩ = some (.slice o.q o.bs.length o.cap) := by
  have hlt := (List.getElem?_eq_some_iff.1 hi).1
  obtain ⟨b, off, e, _, hc⟩ := h.at_ (by omega)
  exact ⟨b, off, e, hc i o hi 0 _ rfl, hc i o hi 1 _ rfl, hc i o hi 2 _ rfl, hc i o hi 3 _ rfl, hc i o hi 4 _ rfl⟩

set_option maxHeartbeats 4000000 in
theorem least_any (n : Int) (hn : 0 ≤ n ∧ n ≤ 255) (p : Option Addr) (ops : List OpD) (cap : Nat) (w : World) (hs : Scr w p ops) (hlen : ops.length * 56 ≤ 140737488355328) :
    Calls Try.prog 5 #[.int .u8 n, .slice p ops.length cap] w fun e w' => e = .returned (.bool true) ∧ Mod No w w' := by
  obtain ⟨N, hN⟩ : ∃ N : Nat, (N : Int) = 1 + n % 16 := ⟨(1 + n % 16).toNat, by omega⟩
  have hN1 : 1 ≤ N := by omega
  have hN2 : N ≤ 16 := by omega
  have HS := Lib.hid hs; clear hs
  go_enter Try.func5, Try.ntmps5
  go_wp2_with fail
  rw [← hN]
  refine (new_in N _ hN1 (by omega)).mono ?_
  rintro e w1 ⟨B, F, rfl, hB, hF, hm1, hP1⟩
  go_wp2_with fail
  rw [← hN]
  refine (rnew_in N _ hN1 (by omega)).mono ?_
  rintro e w2 ⟨K0, rfl, hK, hm2, hR2⟩
  have hm12 := hm1.trans hm2
  have hs1 := hm1.size
  have h0 : RoundS w B F N 0 K0 (List.replicate N freeFr) w2 := ⟨⟨hP1.kept hm2 (fun q => q) (fun q => q), hR2, invS_new _ _⟩, by simp, hm12, hF, fun k hk => by have := hK k hk; omega⟩
  obtain ⟨R0, hR0⟩ : ∃ R0, R0 = K0.R := ⟨_, rfl⟩
  rw [← hR0]
  have HR0 := Lib.hid hR0
  clear hR0 hP1 hR2 hm1 hm2 hm12 hK hN
  go_wp2_with fail
  go_loopw [10] (fun v wr => ∃ i : Nat, i ≤ ops.length ∧ v = .int .i64 i ∧ ∃ K S, RoundS w B F N i K S wr ∧ K.R = R0) (fun v _ => ops.length - (intOf v).toNat)
  case atStart => exact ⟨0, Nat.zero_le _, rfl, K0, _, h0, HR0.out.symm⟩
  case round =>
    obtain ⟨i, hi, rfl, K, S, hrd, hKR⟩ := hrel
    by_cases hlt : i < ops.length
    · obtain ⟨o, ho⟩ : ∃ o, ops[i]? = some o := ⟨_, List.getElem?_eq_getElem hlt⟩
      have hscr := HS.out.kept hrd.mod
      obtain ⟨sb, so, rfl, c0, c1, c2, c3, c4⟩ := hscr.cells5 ho
      have hok := HS.out.ok o (List.mem_of_getElem? ho)
      have hbts := hok.bts hrd.mod hrd.F hrd.K
      have hpl := play_any (m := i) (by omega) o.what o.a o.b o.c o.q o.bs o.cap wr hrd.two hbts hok.len
      rw [hKR] at hpl
      have HPL := Lib.hid hpl
      have HRD := Lib.hid hrd
      have HKR := Lib.hid hKR
      clear hpl hrd hKR hbts hok hscr ho h0
      go_wp2_with fail
      refine HPL.out.mono ?_
      rintro e w3 ⟨rfl, ht3⟩
      obtain ⟨K3, S3, hrd3, hK3⟩ := HRD.out.play ht3
      have hKR3 : K3.R = R0 := by rw [hK3, HKR.out]
      clear ht3 hK3 HPL HRD HKR
      go_wp2_with fail
      refine (owned_in (-1) _ hrd3.two.p).mono ?_
      rintro e w4 ⟨v, rfl, hown, hbel⟩
      have hm4 : Mod No w3 w4 := Mod.of_below hbel
      have hlenS := hrd3.len
      have hP4 := hrd3.two.p.kept hm4 (fun q => q) (fun q => q)
      have hR4 := hrd3.two.r.keptNo hm4
      have hI := hrd3.two.inv
      have hmod4 := hrd3.mod.trans hm4
      have hF3 := hrd3.F
      have hKb := hrd3.K
      have hs3 := hrd3.mod.size
      have b0 : (0 : Int) ≤ (i : Int) % 8 := by omega
      have b1 : (i : Int) % 8 < 8 := by omega
      obtain ⟨o8, ho8⟩ : ∃ o8 : Int, o8 = (i : Int) % 8 := ⟨_, rfl⟩
      have hnext : ∀ (S' : List Fr) (w' : World), S'.length = N → PhM w' B F S' → RfM w' K3 S' → invS (i + 1) S' → Mod (fun k => k = F ∨ K3.inn k) w4 w' → RoundS w B F N (i + 1) K3 S' w' := by
        intro S' w' h1 h2 h3 h4 h5
        refine ⟨⟨h2, h3, h4⟩, h1, hmod4.step h5 ?_, hF3, hKb⟩
        intro k hk q
        rcases q with rfl | q
        · omega
        · have := hKb k (RfK.inn_has q); omega
      have HNX := Lib.hid hnext
      clear hnext
      cases hk : idxs S3 (-1) S3.length with
      | nil =>
        rw [hk] at hown
        obtain ⟨q4, c4', rfl⟩ := owns_slice hown
        have hA := alloc_full o8 _ hP4 (by omega) hk
        have hRA : ∀ w5, Mod No w4 w5 → _ := fun w5 (hm : Mod No w4 w5) => ralloc_full o8 w5 (hR4.keptNo hm) (by omega) hk
        have HA := Lib.hid hA
        have HRA := Lib.hid hRA
        have HN1 : Hid (∀ w6, Mod No w4 w6 → RoundS w B F N (i + 1) K3 S3 w6) := fun w6 hm => HNX.out S3 w6 hlenS (hP4.kept hm (fun q => q) (fun q => q)) (hR4.keptNo hm) hI (Mod.of_no hm)
        have HE := Lib.hid ho8
        rw [hKR3] at hRA
        clear hA hRA hrd3 hbel hm4 hP4 hR4 hI hmod4 hKb hown hk HNX ho8 b0 b1
        go_wp2_with fail
        rw [← HE.out]
        refine HA.out.mono ?_
        rintro e w5 ⟨rfl, hm5⟩
        go_wp2_with fail
        rw [← HE.out]
        have hra := HRA.out w5 hm5
        rw [hKR3] at hra
        refine hra.mono ?_
        rintro e w6 ⟨rfl, hm6⟩
        have HN2 := Lib.hid (HN1.out _ (hm5.trans hm6))
        clear hra hm5 hm6
        go_wp2
        go_roundw
        case rel => exact ⟨i + 1, by omega, by go_num, K3, S3, HN2.out, hKR3⟩
        case measure => simp [intOf]; omega
      | cons x r =>
        obtain ⟨k, rfl, hkn, hown'⟩ := idxs_owns S3 (-1) S3.length x (by rw [hk]; simp)
        have hf : S3[k]? = some S3[k] := List.getElem?_eq_getElem hkn
        have hfo : S3[k].owner = -1 := by simpa [ownsAt, hf] using hown'
        have hff := (hI S3[k] (List.getElem_mem hkn)).free hfo
        rw [hff] at hf
        obtain ⟨L, hL⟩ : ∃ L, L = (idxs S3 (-1) S3.length).length := ⟨_, rfl⟩
        rw [← hL] at hown
        obtain ⟨g, cap4, rfl, hj, hcp, hg, hcl⟩ := row_item hown 0 k (by rw [hk]; rfl)
        have hL0 : ((L : Int) == 0) = false := beq_eq_false_iff_ne.2 (by omega)
        have hL1 : (0 : Int) < L := by omega
        clear hL
        obtain ⟨f', hf'⟩ : ∃ f' : Fr, f' = { freeFr with owner := o8 } := ⟨_, rfl⟩
        have hA := alloc_some o8 _ hP4 (by omega) hk hf
        rw [← hf'] at hA
        have hRA : ∀ w5, Mod (One F) w4 w5 → RfM w5 K3 S3 → _ := fun w5 (_ : Mod (One F) w4 w5) (hR : RfM w5 K3 S3) => ralloc_some o8 w5 hR (by omega) hk hf
        rw [← hf'] at hRA
        have hI' : invS (i + 1) (S3.set k f') := hI.set k (by
          rw [hf']
          exact ⟨fun q => by simp only at q; omega, by simp only; omega, by simp [freeFr], by simp [freeFr]; omega, by simp [freeFr]⟩)
        have hset : (S3.set k f')[k]? = some f' := by simp [hkn]
        have hlen' : (S3.set k f').length = N := by rw [List.length_set]; exact hlenS
        have hz : AllZero f'.bytes := by rw [hf']; exact allZero_free
        have e1 : f'.owner = o8 := by rw [hf']
        have e2 : f'.type = 0 := by rw [hf']; rfl
        have e3 : f'.count = 0 := by rw [hf']; rfl
        have e4 : f'.total = 0 := by rw [hf']; rfl
        have hneP := hR4.ne_phys hP4
        have hgF : g ≠ F := by have := hrd3.two.p.ltF; omega
        have hgK : ¬ K3.inn g := fun q => by have := hrd3.two.r.lt g (RfK.inn_has q); omega
        have hmF4 := hmod4
        have HE := Lib.hid ho8
        have HA := Lib.hid hA
        have HRA := Lib.hid hRA
        have HI' := Lib.hid hI'
        have HSET := Lib.hid hset
        have HLEN' := Lib.hid hlen'
        have HZ := Lib.hid hz
        have HR4 := Lib.hid hR4
        have HNEP := Lib.hid hneP
        have HE1 := Lib.hid e1
        have HE2 := Lib.hid e2
        have HE3 := Lib.hid e3
        have HE4 := Lib.hid e4
        have HGF := Lib.hid hgF
        have HGK := Lib.hid hgK
        clear hA hRA hI' hset hlen' hz hR4 hneP e1 e2 e3 e4 hgF hgK hf' hff hfo hf hrd3 hbel hm4 hP4 hI hmod4 hKb hown hown' hk ho8 b0 b1 hmF4
        go_wp2_with fail
        rw [← HE.out]
        refine HA.out.mono ?_
        rintro e w5 ⟨rfl, hm5, hP5⟩
        have hR5 := HR4.out.kept hm5 (fun k hk (e : k = F) => HNEP.out.2 (e ▸ hk))
        have hcl5 := (World.cell?_of_block (w := w4) (hm5.block g (World.block_lt_of_cell? w4 _ hcl) HGF.out)).trans hcl
        go_wp2_with fail
        rw [← HE.out]
        have hra := HRA.out w5 hm5 hR5
        rw [hKR3] at hra
        refine hra.mono ?_
        rintro e w6 ⟨rfl, hm6, hR6⟩
        have hne5 := hR5.ne_phys hP5
        have hP6 := hP5.kept hm6 (fun q => hne5.1 (RfK.inn_has q)) (fun q => hne5.2 (RfK.inn_has q))
        have hcl6 := (World.cell?_of_block (w := w5) (hm6.block g (World.block_lt_of_cell? w5 _ hcl5) HGK.out)).trans hcl5
        have hmm6 : Mod (fun k => k = F ∨ K3.inn k) w4 w6 := (hm5.mono (fun k _ e => .inl e)).trans (hm6.mono (fun k _ e => .inr e))
        clear hra hm5 hm6 hR5 hcl hcl5 hne5 hP5
        go_wp2_with fail
        refine (frame_in k f' _ hP6 (by omega) (by rw [Int.toNat_natCast]; exact HSET.out)).mono ?_
        rintro e w7 ⟨rfl, hm7⟩
        have hP7 := hP6.kept hm7 (fun q => q) (fun q => q)
        have hR7 := hR6.keptNo hm7
        have hcl7 := (World.cell?_of_block (w := w6) (hm7.block g (World.block_lt_of_cell? w6 _ hcl6) (fun q => q))).trans hcl6
        have hmm7 := hmm6.trans (Mod.of_no hm7)
        have e1 := HE1.out
        have e2 := HE2.out
        have e3 := HE3.out
        have e4 := HE4.out
        have HO8 := HE.out
        have hlt7 := World.block_lt_of_cell? w7 _ hcl7
        clear hP6 hR6 hcl6 hmm6 hm7
        go_wp2_with fail
        refine (clean_yes k f' _ (hP7.alloc _) (by omega) (by rw [Int.toNat_natCast]; exact HSET.out) HZ.out).mono ?_
        rintro e w8 ⟨rfl, hm8⟩
        have hmm8 := (hmm7.alloc _).trans (Mod.of_no hm8)
        have HN2 := Lib.hid (HNX.out _ w8 HLEN'.out ((hP7.alloc _).kept hm8 (fun q => q) (fun q => q)) ((hR7.alloc _).keptNo hm8) HI'.out hmm8)
        clear hP7 hR7 hmm7 hmm8 hm8 hcl7
        go_wp2
        go_roundw
        case rel => exact ⟨i + 1, by omega, by go_num, K3, _, HN2.out, hKR3⟩
        case measure => simp [intOf]; omega
    · obtain rfl : i = ops.length := by omega
      have hmod := hrd.mod
      clear hrd
      go_wp2_with (go_at_call 28; refine (awake_yes _).mono ?_; rintro e w' ⟨rfl, hm2⟩)
      go_ret
      exact ⟨rfl, hmod.trans hm2⟩

end Go.Proofs.Ythfkpbfapkpnfab
