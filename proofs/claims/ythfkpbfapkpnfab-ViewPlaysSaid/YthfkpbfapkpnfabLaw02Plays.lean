/- ViewPlays: any script, in both views. -/
import Derived.Test.YthfkpbfapkpnfabLaw02Play2
import Derived.Test.YthfkpbfapkpnfabLaw02Same
import Derived.Test.YthfkpbfapkpnfabLaw02Two
import Derived.LaidEqlPtr
namespace Go.Proofs.Ythfkpbfapkpnfab
open Go.RowKit
set_option maxRecDepth 100000

theorem Try.infoMachine2 : (Try.prog.info? 25).map (·.size) = some 2 := by kernel_rfl
theorem ptr_neq_same (a : Addr) (w : World) : (binOp .neq 22 (.pointer (some a)) (.pointer (some a))).run Try.prog w = .ok (.bool false) w := by
  obtain ⟨j, hj, hs⟩ := Option.map_eq_some_iff.1 Try.infoMachine2
  have h : ∀ d : Nat, (Op.equalIn (d + 1) 22 (.pointer (some a)) (.pointer (some a))).run Try.prog w = .ok true w := fun d => by
    simp [Op.equalIn, run_underlying Try.underlying22, sizeOf, typeInfo, hj, run_sameAddr_same]
  simp only [binOp]
  simp [Op.equal, Op.maxDepth, h 9999]

set_option maxHeartbeats 16000000 in
theorem vplays_any (q0 : Option Addr) (sl : List StD) (c0 : Nat) (q1 : Option Addr) (ps : List Pk) (c1 : Nat) (q2 : Option Addr) (ops : List VOp) (c2 : Nat) (w : World) (hs : StDS w q0 sl) (hsl : sl.length * 40 ≤ 140737488355328) (hp : PkS w q1 ps) (hpl : ps.length * 48 ≤ 140737488355328) (ho : VOpS w q2 ops) (hol : ops.length * 56 ≤ 140737488355328) :
    Calls Try.prog 11 #[.slice q0 sl.length c0, .slice q1 ps.length c1, .slice q2 ops.length c2] w fun e w' => e = .returned (.bool true) ∧ Mod No w w' := by
  obtain ⟨S, hSl, hSI, hbeg⟩ := begin2_in sl hs.ranges (by omega)
  have hpl2 : ps.length ≤ 140737488355328 := by omega
  have HS := Lib.hid hs
  have HP := Lib.hid hp
  have HO := Lib.hid ho
  have HB := Lib.hid hbeg
  clear hs hp hbeg hSI hSl hsl ho
  go_enter Try.func11, Try.ntmps11
  go_wp2_with fail
  refine (HB.out w q0 c0 HS.out).mono ?_
  rintro e w1 ⟨B, F, K, rfl, h1⟩
  have H1 := Lib.hid h1
  clear h1
  by_cases hlong : 64 < ps.length
  · go_wp2_with fail
    refine (vnew_long q1 ps.length c1 _ H1.out.two.p hlong hpl2).mono ?_
    rintro e w3 ⟨rfl, rfl⟩
    go_wp2_with fail
    refine (rvnew_long q1 ps.length c1 _ hlong hpl2).mono ?_
    rintro e w3 ⟨rfl, rfl⟩
    go_wp2
    go_ret
    exact ⟨rfl, H1.out.mod⟩
  · go_wp2_with fail
    refine (vnew_in q1 ps c1 _ H1.out.two.p (HP.out.kept H1.out.mod) (by omega)).mono ?_
    rintro e w3 ⟨k, rfl, hm3, hv3⟩
    have HM3 := Lib.hid hm3
    have HV3 := Lib.hid hv3
    clear hm3 hv3
    go_wp2_with fail
    refine (rvnew_in q1 ps c1 _ (by omega)).mono ?_
    rintro e w4 ⟨X, rfl, hX, hm4, hx4⟩
    have HV := Lib.hid (show BothV w B F w1.heap.size w3.heap.size k X K q1 c1 ps 0 S w4 from
      ⟨(VwS.no ⟨H1.out.two.p.kept HM3.out (fun q => q) (fun q => q), HV3.out, H1.out.mod.trans HM3.out, H1.out.F, H1.out.two.p.ltF⟩ hm4), (H1.out.two.r.keptNo HM3.out).keptNo hm4, hx4, fun j hj => ⟨H1.out.K j hj, H1.out.two.r.lt j hj⟩, hX, H1.out.two.inv⟩)
    clear hX hm4 hx4 HM3 HV3 H1
    generalize w1.heap.size = b1 at HV
    generalize w3.heap.size = t1 at HV
    go_wp2_with fail
    go_loopw [14] (fun v wr => ∃ i : Nat, i ≤ ops.length ∧ v = .int .i64 i ∧ ∃ (N : Int) (T : List Fr), 0 ≤ N ∧ N ≤ i ∧ BothV w B F b1 t1 k X K q1 c1 ps N T wr) (fun v _ => ops.length - (intOf v).toNat)
    case atStart => exact ⟨0, Nat.zero_le _, rfl, 0, S, by omega, by omega, HV.out⟩
    case round =>
      obtain ⟨i, hi, rfl, N, T, hN0, hN1, hbv⟩ := hrel
      have HBV := Lib.hid hbv
      clear hbv
      by_cases hlt : i < ops.length
      · have hlt' : (i : Int) < ops.length := by omega
        have b0 : (0 : Int) ≤ i := by omega
        obtain ⟨o, ho⟩ : ∃ o, ops[i]? = some o := ⟨_, List.getElem?_eq_getElem hlt⟩
        obtain ⟨sb, so, rfl, _⟩ := HO.out.cellsAt ho
        have hat : ∀ w', Mod No w w' → (fun w' : World => w'.cell? ⟨sb, so + i * 5, none⟩ = some (.int .i64 o.what) ∧ w'.cell? ⟨sb, so + i * 5 + 1, none⟩ = some (.int .i64 o.mfn) ∧ w'.cell? ⟨sb, so + i * 5 + 2, none⟩ = some (.int .i64 o.off) ∧ w'.cell? ⟨sb, so + i * 5 + 3, none⟩ = some (.int .i64 o.n) ∧ w'.cell? ⟨sb, so + i * 5 + 4, none⟩ = some (.slice o.bq o.bs.length o.bc)) w' := by
          intro w' hm
          obtain ⟨_, _, e, _, x0, x1, x2, x3, x4⟩ := (HO.out.kept hm).cellsAt ho
          cases e
          exact ⟨x0, x1, x2, x3, x4⟩
        have HBY : Hid (Byt w o.bq o.bs o.bc) := (HO.out.ok o (List.mem_of_getElem? ho)).b
        have hS1 : (fun w' : World => w'.cell? ⟨sb, so + i * 5, none⟩ = some (.int .i64 o.what) ∧ w'.cell? ⟨sb, so + i * 5 + 1, none⟩ = some (.int .i64 o.mfn) ∧ w'.cell? ⟨sb, so + i * 5 + 2, none⟩ = some (.int .i64 o.off) ∧ w'.cell? ⟨sb, so + i * 5 + 3, none⟩ = some (.int .i64 o.n) ∧ w'.cell? ⟨sb, so + i * 5 + 4, none⟩ = some (.slice o.bq o.bs.length o.bc)) wr := hat _ HBV.out.c.mod
        have HAT := Lib.hid hat
        clear hat ho
        have hneq := ptr_neq_same ⟨B, 0, none⟩
        go_wp2_with fail
        obtain ⟨y0, y1, y2, y3, y4⟩ := hS1
        go_region_with (first
          | (go_at_call 42; refine (vplay_any o _ (HBV.out.no ((Mod.refl No _).drew)) HP.out HBY.out ⟨hN0, by omega⟩ hpl2).mono ?_; rintro e w2 ⟨rfl, N', T', hn0, hn1, hb2⟩; have HB2 := Lib.hid hb2; have z2 := hb2.x.c.2.2.1; clear hb2)
          | (go_at_call 36; refine (vreads_made HB2.out.c.v).mono ?_; rintro e w' ⟨rfl, rfl⟩)
          | (go_at_call 43; refine (vrest_in _ HB2.out.c.v hpl2).mono ?_; rintro e w5 ⟨rfl, hm5⟩; have HM5 := Lib.hid hm5; have z5 := (HB2.out.no hm5).x.c.2.2.1; clear hm5)
          | (go_at_call 44; refine (rvrest_in _ (HP.out.kept (HB2.out.c.mod.trans HM5.out)) (HB2.out.x.kept HM5.out (fun q => q)) hpl2).mono ?_; rintro e w6 ⟨rfl, hm6⟩; have HM6 := Lib.hid hm6; have z6 := ((HB2.out.no HM5.out).no hm6).x.c.2.2.1; clear hm6)
          | (go_at_call 39; refine (vmachine_made k.V B _ (((HB2.out.no HM5.out).no HM6.out).c.v.c0.1)).mono ?_; rintro e w' ⟨rfl, rfl⟩))
        all_goals
          clear z2 z5 z6
          go_wp2
          go_roundw
          case rel => exact ⟨i + 1, by omega, by go_num, N', T', by omega, by omega, (HB2.out.no HM5.out).no HM6.out⟩
          case measure => simp [intOf]; omega
      · obtain rfl : i = ops.length := by omega
        go_wp2_with (go_at_call 45; refine (same_yes _ HBV.out.c.p HBV.out.r).mono ?_; rintro e w' ⟨rfl, hm2⟩)
        go_ret
        exact ⟨rfl, HBV.out.c.mod.trans hm2⟩

end Go.Proofs.Ythfkpbfapkpnfab
