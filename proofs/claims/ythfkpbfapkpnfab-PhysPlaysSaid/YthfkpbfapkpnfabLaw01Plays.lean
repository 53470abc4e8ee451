/- tenementlaw01.PhysPlays: the walk. -/
import Derived.Test.YthfkpbfapkpnfabLaw01Told
import Derived.Test.YthfkpbfapkpnfabPhysCopy
import Derived.LaidEqlPtr
namespace Go.Proofs.Ythfkpbfapkpnfab
open Go.RowKit
set_option maxRecDepth 100000

theorem OpD.ok.src {o : OpD} {w : World} (h : o.ok w) : Src w o.q o.bs := by
  refine ⟨h.range, fun h0 => ?_⟩
  obtain ⟨b, off, e, _, hc⟩ := h.at_ h0
  exact ⟨_, e, fun j x hj => by rw [Addr.add_lit]; exact hc j x hj⟩

theorem Src.blk {w w' : World} {F : Nat} {o : OpD} (h : o.ok w) (hm : Mod (One F) w w') (hF : ∀ b off, o.q = some ⟨b, off, none⟩ → b < w.heap.size → b ≠ F) : Src w' o.q o.bs := by
  refine ⟨h.range, fun h0 => ?_⟩
  obtain ⟨b, off, e, hb, hc⟩ := h.at_ h0
  exact ⟨_, e, fun j x hj => by rw [Addr.add_lit]; exact (World.cell?_of_block (w := w) (hm.block b hb (hF b off e hb))).trans (hc j x hj)⟩

theorem RoundS.alloc {w0 w : World} {B F n i : Nat} {K : RfK} {S : List Fr} (h : RoundS w0 B F n i K S w) (o : Obj) : RoundS w0 B F n i K S (w.alloc o) :=
  ⟨⟨h.two.p.alloc o, h.two.r.alloc o, h.two.inv⟩, h.len, h.mod.alloc o, h.F, h.K⟩

theorem Try.infoMachine : (Try.prog.info? 25).map (·.size) = some 2 := by kernel_rfl
/-- Two machines of the code's are not one. -/
theorem ptr_ne {w : World} {B F B' F' : Nat} {S S' : List Fr} (h : PhM w B F S) (h' : PhM w B' F' S') (hne : B' ≠ B) :
    (binOp .eql 22 (.pointer (some ⟨B', 0, none⟩)) (.pointer (some ⟨B, 0, none⟩))).run Try.prog w = .ok (.bool false) w := by
  obtain ⟨j, hj, hs⟩ := Option.map_eq_some_iff.1 Try.infoMachine
  obtain ⟨_, _, h1⟩ := h.head
  obtain ⟨_, _, h2⟩ := h'.head
  exact run_eql_ptr_other w Try.underlying22 hj (by rw [hs]; decide) (fun e => hne (by cases e; rfl)) h2 h1

set_option maxHeartbeats 4000000 in
theorem plays_out (n : Int) (p : Option Addr) (len cap : Nat) (w : World) (hn : n < 1 ∨ 256 < n) :
    Calls Try.prog 7 #[.int .i64 n, .slice p len cap] w fun e w' => e = .returned (.bool true) ∧ Mod No w w' := by
  go_enter Try.func7, Try.ntmps7
  go_wp2_with (first
    | (go_at_call 27; refine (new_out n _ hn).mono ?_; rintro e w' ⟨rfl, rfl⟩)
    | (go_at_call 29; refine (rnew_out n _ hn).mono ?_; rintro e w' ⟨rfl, rfl⟩)
    | (go_at_call 28; refine (awake_yes _).mono ?_; rintro e w' ⟨rfl, hm2⟩))
  go_ret
  exact ⟨rfl, hm2⟩

set_option maxHeartbeats 4000000 in
theorem plays_in (N : Nat) (hN1 : 1 ≤ N) (hN2 : N ≤ 256) (p : Option Addr) (ops : List OpD) (cap : Nat) (w : World) (hs : Scr w p ops) (hlen : ops.length * 56 ≤ 140737488355328) :
    Calls Try.prog 7 #[.int .i64 (N : Int), .slice p ops.length cap] w fun e w' => e = .returned (.bool true) ∧ Mod No w w' := by
  have HS := Lib.hid hs; clear hs
  go_enter Try.func7, Try.ntmps7
  go_wp2_with fail
  refine (new_in N _ hN1 hN2).mono ?_
  rintro e w1 ⟨B0, F0, rfl, hB, hF, hm1, hP1⟩
  go_wp2_with fail
  refine (rnew_in N _ hN1 hN2).mono ?_
  rintro e w2 ⟨K0, rfl, hK, hm2, hR2⟩
  have hm12 := hm1.trans hm2
  have hs1 := hm1.size
  have h0 : RoundS w B0 F0 N 0 K0 (List.replicate N freeFr) w2 := ⟨⟨hP1.kept hm2 (fun q => q) (fun q => q), hR2, invS_new _ _⟩, by simp, hm12, hF, fun k hk => by have := hK k hk; omega⟩
  obtain ⟨R0, hR0⟩ : ∃ R0, R0 = K0.R := ⟨_, rfl⟩
  rw [← hR0]
  have HR0 := Lib.hid hR0
  clear hR0 hP1 hR2 hm1 hm2 hm12 hK
  go_wp2_with fail
  go_loopw [5, 9] (fun vm v wr => ∃ i : Nat, i ≤ ops.length ∧ v = .int .i64 i ∧ ∃ B F K S, vm = .pointer (some ⟨B, 0, none⟩) ∧ RoundS w B F N i K S wr ∧ K.R = R0) (fun _ v _ => ops.length - (intOf v).toNat)
  case atStart => exact ⟨0, Nat.zero_le _, rfl, B0, F0, K0, _, rfl, h0, HR0.out.symm⟩
  case round =>
    obtain ⟨i, hi, rfl, B, F, K, S, rfl, hrd, hKR⟩ := hrel
    clear h0
    by_cases hlt : i < ops.length
    · obtain ⟨o, ho⟩ : ∃ o, ops[i]? = some o := ⟨_, List.getElem?_eq_getElem hlt⟩
      have hscr := HS.out.kept hrd.mod
      obtain ⟨sb, so, rfl, c0, c1, c2, c3, c4⟩ := hscr.cells5 ho
      have hok := HS.out.ok o (List.mem_of_getElem? ho)
      have hrd1 := hrd.alloc (.cells #[.int .i64 o.what, .int .i64 o.a, .int .i64 o.b, .int .i64 o.c, .slice o.q o.bs.length o.cap] 54)
      by_cases h7 : o.what = 7
      · have d7 : (o.what == 7) = true := beq_iff_eq.2 h7
        have HRD := Lib.hid hrd1
        have HOK := Lib.hid hok
        have HKR := Lib.hid hKR
        clear hrd hrd1 hok hKR hscr ho h7
        have hbx := heap_alloc_new wr (.cells #[.int .i64 o.what, .int .i64 o.a, .int .i64 o.b, .int .i64 o.c, .slice o.q o.bs.length o.cap] 54)
        have HBX := Lib.hid hbx
        clear hbx
        go_wp2_with fail
        refine (copy_in _ HRD.out.two.p).mono ?_
        rintro e w3 ⟨B', F', rfl, hB', hF', hm3, hP3⟩
        have hlB := HRD.out.two.p.ltB
        have hlF := HRD.out.two.p.ltF
        have hne1 : B' ≠ B := by omega
        have hne2 : B ≠ B' := by omega
        have hsz0 := HRD.out.mod.size
        have hmw3 := HRD.out.mod.trans hm3
        have hP3o := HRD.out.two.p.kept hm3 (fun q => q) (fun q => q)
        have hR3 := HRD.out.two.r.keptNo hm3
        have hbx3 := hm3.blk HBX.out (fun q => q)
        have x1 := row_cell (l := [.int .i64 o.what, .int .i64 o.a, .int .i64 o.b, .int .i64 o.c, .slice o.q o.bs.length o.cap]) hbx3 1
        have x4 := row_cell (l := [.int .i64 o.what, .int .i64 o.a, .int .i64 o.b, .int .i64 o.c, .slice o.q o.bs.length o.cap]) hbx3 4
        simp only [List.getElem?_cons_zero, List.getElem?_cons_succ] at x1 x4
        obtain ⟨r, S', _, hI', hPw, _⟩ := both_write i S o.a 0 o.bs HOK.out.range HRD.out.two.inv
        obtain ⟨xa, ra, S2, _, _, hPa, _⟩ := both_alloc i S' (-2) hI'
        have HPW := Lib.hid (hPw w3 B F o.q o.cap hP3o (HOK.out.kept hmw3).src)
        have HPA := Lib.hid hPa
        have HP3 := Lib.hid hP3
        have HR3 := Lib.hid hR3
        have HNE := Lib.hid (hR3.ne_phys hP3o)
        have hpe := ptr_ne hP3o hP3 hne1
        clear hPw hPa hP3 hR3 hP3o hbx3 hI'
        go_wp2_with fail
        refine HPW.out.mono ?_
        rintro e w4 ⟨rfl, hm4, hP4⟩
        go_wp2_with fail
        refine (HPA.out w4 B F hP4).mono ?_
        rintro e w5 ⟨rfl, hm5, hP5⟩
        have hm45 := hm4.trans hm5
        have hF0 := HRD.out.F
        have hfin : RoundS w B' F' N (i + 1) K S w5 := by
          refine ⟨⟨HP3.out.kept hm45 (fun (e : B' = F) => by omega) (fun (e : F' = F) => by omega), HR3.out.kept hm45 (fun k hk (e : k = F) => HNE.out.2 (e ▸ hk)), HRD.out.two.inv.mono (Nat.le_succ i)⟩, HRD.out.len, hmw3.step hm45 (fun k hk (e : k = F) => by omega), by omega, HRD.out.K⟩
        have HFIN := Lib.hid hfin
        have HKR' := HKR.out
        clear hfin hm4 hm5 hP4 hP5 hm45
        go_wp2
        go_roundw
        case rel => exact ⟨i + 1, by omega, by go_num, B', F', K, S, rfl, HFIN.out, HKR'⟩
        case measure => simp [intOf]; omega
      · have d7 : (o.what == 7) = false := beq_eq_false_iff_ne.2 h7
        have hbts := hok.bts hrd1.mod hrd1.F hrd1.K
        have hpl := play_any (m := i) (by omega) o.what o.a o.b o.c o.q o.bs o.cap _ hrd1.two hbts hok.len
        rw [hKR] at hpl
        have HPL := Lib.hid hpl
        have HRD := Lib.hid hrd1
        have HKR := Lib.hid hKR
        clear hpl hrd hrd1 hKR hbts hok hscr ho h7
        go_wp2_with fail
        refine HPL.out.mono ?_
        rintro e w3 ⟨rfl, ht3⟩
        obtain ⟨K3, S3, hrd3, hK3⟩ := HRD.out.play ht3
        have hKR3 : K3.R = R0 := by rw [hK3, HKR.out]
        have HRD3 := Lib.hid hrd3
        clear ht3 hK3 HPL HRD HKR hrd3
        go_wp2
        go_roundw
        case rel => exact ⟨i + 1, by omega, by go_num, B, F, K3, S3, rfl, HRD3.out, hKR3⟩
        case measure => simp [intOf]; omega
    · obtain rfl : i = ops.length := by omega
      have htd := told_yes wr hrd.two
      rw [hKR] at htd
      have HTD := Lib.hid htd
      have hmod := hrd.mod
      clear hrd htd
      go_wp2_with (first
        | (go_at_call 37; refine HTD.out.mono ?_; rintro e w' ⟨rfl, hm3⟩)
        | (go_at_call 28; refine (awake_yes _).mono ?_; rintro e w' ⟨rfl, hm2⟩))
      go_ret
      exact ⟨rfl, (hmod.trans hm3).trans hm2⟩

theorem plays_any (n : Int) (p : Option Addr) (ops : List OpD) (cap : Nat) (w : World) (hs : Scr w p ops) (hlen : ops.length * 56 ≤ 140737488355328) :
    Calls Try.prog 7 #[.int .i64 n, .slice p ops.length cap] w fun e w' => e = .returned (.bool true) ∧ Mod No w w' := by
  by_cases hn : n < 1 ∨ 256 < n
  · exact plays_out n p _ cap w hn
  · obtain ⟨N, rfl⟩ := Int.eq_ofNat_of_zero_le (show 0 ≤ n by omega)
    exact plays_in N (by omega) (by omega) p ops cap w hs hlen

end Go.Proofs.Ythfkpbfapkpnfab
