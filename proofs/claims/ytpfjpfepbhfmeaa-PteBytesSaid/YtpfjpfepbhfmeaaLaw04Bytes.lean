/- tenementlaw04.PteBytes: the walk. -/
import Derived.Test.YtpfjpfepbhfmeaaLaw04Begin
import Derived.Test.YtpfjpfepbhfmeaaPteH
import Derived.Test.YtpfjpfepbhfmeaaLaw04Awake
import Derived.Test.YtpfjpfepbhfmeaaBothG
import Derived.BigQuiet
import Derived.Test.YtpfjpfepbhfmeaaLaw02Begin
namespace Go.Proofs.Ytpfjpfepbhfmeaa
open Go.RowKit
set_option maxRecDepth 100000

set_option maxHeartbeats 8000000 in
theorem ptebytes_any (n : Int) (hn : 0 ≤ n ∧ n ≤ 255) (p : Option Addr) (ops : List PutD) (cap : Nat) (root va many : Int) (q : Option Addr) (bs : List Int) (bc : Nat) (w : World) (hs : PutDS w p ops) (hlen : ops.length * 24 ≤ 140737488355328) (hva : 0 ≤ va ∧ va ≤ 4294967295)
    (hmany : many < 9223372036854775808) (hb : Byt w q bs bc) :
    Calls Try.prog 7 #[.int .u8 n, .slice p ops.length cap, .int .i64 root, .int .u32 va, .int .i64 many, .slice q bs.length bc] w fun e w' => e = .returned (.bool true) ∧ Mod No w w' := by
  obtain ⟨N, hN⟩ : ∃ N : Nat, (N : Int) = 1 + n % 8 := ⟨(1 + n % 8).toNat, by omega⟩
  have HB := Lib.hid (begin4_in N (by omega) (by omega) p ops cap w hs hlen)
  have HBY := Lib.hid hb
  clear hs hb
  go_enter Try.func7, Try.ntmps7
  go_wp2_with fail
  rw [← hN]
  refine HB.out.mono ?_
  rintro e w1 ⟨B, F, K, S, rfl, hrd, _⟩
  obtain ⟨er, fb, hF1, hF2⟩ := fetch_both S root va many hva.1 hva.2 hmany
  obtain ⟨r, S', hl', hI', hS1, hS2⟩ := store_both 0 S root va bs hva.1 hva.2 hrd.two.inv
  have HRD := Lib.hid hrd
  have HF1 : Hid (Calls Try.prog 40 _ w1 _) := hF1 w1 B F hrd.two.p
  have HF2 : Hid (∀ w', Mod No w1 w' → _) := fun w' (hm : Mod No w1 w') => hF2 w' K (hrd.two.r.keptNo hm)
  have HS1 := Lib.hid hS1
  have HS2 := Lib.hid hS2
  have HL' := Lib.hid hl'
  have HI' := Lib.hid hI'
  obtain ⟨R, hR⟩ : ∃ R, R = K.R := ⟨_, rfl⟩
  rw [← hR] at HF2
  rw [← hR]
  have HKR := Lib.hid hR
  clear hR hrd hN HB hF1 hF2 hS1 hS2 hl' hI'
  go_wp2_with fail
  refine HF1.out.mono ?_
  rintro e w2 ⟨q2, k2, c2, rfl, hm2, ho2⟩
  have HM2 := Lib.hid hm2
  have HO2 := Lib.hid ho2
  clear hm2 ho2
  go_wp2_with fail
  refine (HF2.out _ HM2.out).mono ?_
  rintro e w3 ⟨q3, k3, c3, rfl, hm3, ho3⟩
  have hv1 : (convert 31 9 (.slice q2 k2 c2)).run Try.prog w3 = .ok (.string (strOfNums fb)) w3 := conv_own (own_mod HO2.out hm3 (fun _ _ q => q))
  have hv2 : (convert 31 9 (.slice q3 k3 c3)).run Try.prog w3 = .ok (.string (strOfNums fb)) w3 := conv_own ho3
  have HM3 := Lib.hid (HM2.out.trans hm3)
  clear hm3 ho3 HF1 HF2
  have HBY4 : Hid (Byt (w3.alloc (.cells #[] 5)) q bs bc) := HBY.out.kept ((HRD.out.mod.trans HM3.out).alloc _)
  have hbl := HBY.out.len
  go_wp2_with (at_builtin; refine wpList_append_byt rfl _ _ rfl w3.heap.size _ [] rfl (own_empty (heap_alloc_new w3 (.cells #[] 5)) (Nat.le_refl _)) q bs bc rfl HBY4.out (by simp; omega) (by simp) ?_; intro v' w5 hown5 hgr5; obtain ⟨q5, c5, rfl⟩ := owns_slice hown5; have HG5 := Lib.hid hgr5; have HO5 := Lib.hid hown5; clear hown5 hgr5)
  obtain ⟨hk5, hby5, hat5⟩ := Byt.ofOwn (HO5.out : w5.ownsRow w3.heap.size 5 1 (.slice q5 ([] ++ bs).length c5) ([] ++ bs).length (([] ++ bs).map (Value.int .u8))) (by rw [List.nil_append]; exact HBY.out.range) (by rw [List.nil_append]; exact HBY.out.len)
  rw [List.nil_append] at hby5
  have hm35 : Mod No w3 w5 := ((Mod.refl No w3).alloc _).grown HG5.out (fun j ej hj => by cases ej; exact absurd hj (Nat.lt_irrefl _))
  have hP5 := HRD.out.two.p.kept (HM3.out.trans hm35) (fun q => q) (fun q => q)
  have hlF := HRD.out.two.p.ltF
  have hs13 := HM3.out.size
  have HST := Lib.hid (HS1.out w5 B F q5 c5 hP5 hby5 (fun b off _ e => by have := (hat5 b off e).1; omega))
  have HM5 := Lib.hid (HM3.out.trans hm35)
  have hrr : ∀ w6, POut B F (.int .i64 r) S' w5 (.returned (.int .i64 r)) w6 → Calls Try.prog 43 #[.pointer (some ⟨R, 0, none⟩), .int .i64 root, .int .u32 va, .slice q bs.length bc] w6 (ROut K (.int .i64 r) S' w6) := by
    intro w6 hpo
    rw [HKR.out]
    have hRm := (HRD.out.mid HM5.out hpo)
    refine HS2.out w6 K q bc hRm.2 (HBY.out.kept hRm.1) (fun b off hz e h => ?_)
    subst e
    have h1 := HRD.out.K b (RfK.inn_has h)
    obtain ⟨b', off', e', hlt, _⟩ := HBY.out.at_ hz
    cases e'
    omega
  have HRR := Lib.hid hrr
  clear hrr hP5 hby5 hat5 hm35 hs13
  go_wp2_with fail
  refine HST.out.mono ?_
  rintro e w6 hpo
  have HPO := Lib.hid hpo
  obtain ⟨rfl, hm6, _⟩ := hpo
  go_wp2_with fail
  refine (HRR.out _ HPO.out).mono ?_
  rintro e w7 hro
  obtain ⟨K', hrd', hK'⟩ := HRD.out.pair HM5.out HPO.out hro HI'.out HL'.out
  obtain ⟨_, rfl, _⟩ := hro
  have HRD' := Lib.hid hrd'
  have HK' := Lib.hid (HKR.out.trans hK'.symm)
  have hlenS : S'.length = N := hrd'.len
  have hlN := hrd'.two.p.len
  clear hm6 HPO hrd' hK' HRR HST
  go_wp2_with fail
  go_loopw [20] (fun v wr => ∃ i : Nat, i ≤ S'.length ∧ v = .int .i64 i ∧ Mod No w7 wr) (fun v _ => S'.length - (intOf v).toNat)
  case atStart => exact ⟨0, Nat.zero_le _, rfl, Mod.refl _ _⟩
  case round =>
    obtain ⟨i, hi, rfl, hm⟩ := hrel
    have hRr := HRD'.out.two.r.keptNo hm
    obtain ⟨cB1, hcB1, hB1⟩ := hRr.cB
    rw [← HK'.out] at hB1
    by_cases hlt : i < S'.length
    · have hlt' : (i : Int) < S'.length := by omega
      have b3 : (0 : Int) ≤ i := by omega
      obtain ⟨f, hf⟩ : ∃ f, S'[i]? = some f := ⟨_, List.getElem?_eq_getElem hlt⟩
      have HRD3 := Lib.hid (read_in i 0 256 f wr (HRD'.out.two.p.kept hm (fun q => q) (fun q => q)) ⟨by omega, by omega, by omega, by omega⟩ (by rw [Int.toNat_natCast]; exact hf))
      have hl := (HRD'.out.two.p.ok f (List.mem_of_getElem? hf)).1
      have HM := Lib.hid hm
      have HF := Lib.hid hf
      clear hm hf hRr
      go_wp2_with fail
      refine HRD3.out.mono ?_
      rintro e w8 ⟨rfl, hm8, _, hg8⟩
      rw [show (f.bytes.drop (0 : Int).toNat).take (256 : Int).toNat = f.bytes from List.take_of_length_le (by rw [show (f.bytes.drop (0 : Int).toNat) = f.bytes from rfl, hl]; exact Nat.le_refl _)] at hg8
      have hR8 := HRD'.out.two.r.keptNo (HM.out.trans hm8)
      obtain ⟨cB8, hcB8, hB8⟩ := hR8.cB
      rw [← HK'.out] at hB8
      obtain ⟨rb, rc, hrc, hbl', hcR, hcx, _⟩ := hR8.cR HF.out
      have hv2 := conv_ref (c := rc) hR8 HF.out hcx
      have hv1 : ∀ q, (convert 31 9 (.slice (some ⟨wr.heap.size, 0, none⟩) 256 256)).run Try.prog (w8.drewN q) = .ok (.string (strOfNums f.bytes)) (w8.drewN q) :=
        fun q => conv_row (w := w8.drewN q) hg8 0 256 256 f.bytes (by rw [List.drop_zero, List.take_of_length_le (by omega)]) (by omega)
      have HM8 := Lib.hid (HM.out.trans hm8)
      clear hm8 hR8 hg8 hcx hbl' hB1 hcB1 hl
      go_wp2_with fail
      go_quiet (fail)
      go_wp2
      go_roundw
      case rel => exact ⟨i + 1, by omega, by go_num, HM8.out.drewN _⟩
      case measure => simp [intOf]; omega
    · obtain rfl : i = S'.length := by omega
      clear hRr
      have hfin := HRD'.out.mod.trans hm
      go_wp2_with (go_at_call 39; refine (awake4 _).mono ?_; rintro e w' ⟨rfl, hm9⟩)
      go_ret
      exact ⟨rfl, hfin.trans hm9⟩

end Go.Proofs.Ytpfjpfepbhfmeaa
