/- ViewLater: what comes later is not seen. -/
import Derived.Test.YthfkpbfapkpnfabLaw02Two
import Derived.Test.YthfkpbfapkpnfabPkOwn
import Derived.Test.YthfkpbfapkpnfabOpenVOp
import Derived.Test.YthfkpbfapkpnfabPlay2
import Derived.LaidEqlPtr
namespace Go.Proofs.Ythfkpbfapkpnfab
open Go.RowKit
set_option maxRecDepth 100000

/-- A rewrite put off. -/
def lateP (M : Int) (p : Pk) : Pk := ⟨if p.at_ < M then M else p.at_, p.mfn, p.off, p.bq, p.bs, p.bc⟩
def moreP (M : Int) (ps ls : List Pk) (i : Nat) : List Pk := ps ++ (ls.take i).map (lateP M)
theorem moreP_len (M : Int) (ps ls : List Pk) (i : Nat) (h : i ≤ ls.length) : (moreP M ps ls i).length = ps.length + i := by simp [moreP]; omega
theorem moreP_zero (M : Int) (ps ls : List Pk) : moreP M ps ls 0 = ps := by simp [moreP]
theorem moreP_succ (M : Int) (ps ls : List Pk) (i : Nat) (p : Pk) (h : ls[i]? = some p) : moreP M ps ls (i + 1) = moreP M ps ls i ++ [lateP M p] := by
  simp [moreP, List.take_add_one, h]
theorem dueAt_more (M N : Int) (ps ls : List Pk) (i : Nat) (h : N < M) : dueAt (moreP M ps ls i) N = dueAt ps N := by
  unfold dueAt moreP
  have h2 : (List.map (lateP M) (List.take i ls)).filter (fun p => p.at_ == N) = [] := by
    refine List.filter_eq_nil_iff.2 fun p hp => ?_
    obtain ⟨x, _, rfl⟩ := List.mem_map.1 hp
    simp only [lateP, beq_iff_eq]
    split <;> omega
  rw [List.filter_append, h2, List.append_nil]
theorem lateP_ok {w : World} {M : Int} {p : Pk} (hM : 0 ≤ M ∧ M ≤ 7) (h : p.ok w) : (lateP M p).ok w := by
  refine ⟨?_, h.w_mfn, h.w_off, h.b⟩
  unfold lateP
  dsimp only
  split
  · exact WalkArith.wf_i64 (by omega)
  · exact h.w_at_
theorem moreP_ok {w : World} {M : Int} {ps ls : List Pk} {i : Nat} (hM : 0 ≤ M ∧ M ≤ 7) (h1 : ∀ o ∈ ps, o.ok w) (h2 : ∀ o ∈ ls, o.ok w) : ∀ o ∈ moreP M ps ls i, o.ok w := by
  intro o ho
  rcases List.mem_append.1 ho with q | q
  · exact h1 o q
  · obtain ⟨x, hx, rfl⟩ := List.mem_map.1 q
    exact lateP_ok hM (h2 x (List.mem_of_mem_take hx))

theorem pk_one {w : World} {g : Nat} {p : Pk} (h : w.heap[g]? = some (.cells p.cells.toArray 77 (0, 0))) (hok : p.ok w) : PkS w (some ⟨g, 0, none⟩) [p] := by
  refine ⟨fun o ho => by simp at ho; subst ho; exact hok, fun _ => ⟨g, 0, rfl, lt_of_blk h, fun i o hi j v hj => ?_⟩⟩
  cases i with
  | zero =>
    simp at hi; subst hi
    have := (row_cell h j).trans hj
    simpa using this
  | succ i => simp at hi

theorem own_none {w : World} {n₀ g : Nat} (h : w.heap[g]? = some (.cells #[] 77 (0, 0))) (hg : n₀ ≤ g) : w.ownsRow n₀ 77 4 (.slice (some ⟨g, 0, none⟩) 0 0) 0 [] :=
  ⟨rfl, .inr ⟨g, 0, #[], rfl, hg, h, Nat.le_refl _, Nat.zero_le _, rfl, rfl⟩⟩

theorem Try.infoMachine3 : (Try.prog.info? 25).map (·.size) = some 2 := by kernel_rfl
theorem ptr_eql_same (a : Addr) (w : World) : (binOp .eql 22 (.pointer (some a)) (.pointer (some a))).run Try.prog w = .ok (.bool true) w := by
  obtain ⟨j, hj, hs⟩ := Option.map_eq_some_iff.1 Try.infoMachine3
  exact run_eql_ptr_same w a Try.underlying22 hj

set_option maxHeartbeats 16000000 in
theorem later_any (q0 : Option Addr) (sl : List StD) (c0 : Nat) (q1 : Option Addr) (ps : List Pk) (c1 : Nat) (q2 : Option Addr) (ls : List Pk) (c2 : Nat) (q3 : Option Addr) (ops : List VOp) (c3 : Nat) (a : Int) (ha : 0 ≤ a ∧ a ≤ 255) (w : World) (hs : StDS w q0 sl) (hsl : sl.length * 40 ≤ 140737488355328)
    (hp : PkS w q1 ps) (hpn : q1 = none → c1 = 0) (hpl : ps.length * 48 ≤ 140737488355328) (hls : PkS w q2 ls) (hll : ls.length * 48 ≤ 140737488355328) (ho : VOpS w q3 ops) (hol : ops.length * 56 ≤ 140737488355328) :
    Calls Try.prog 9 #[.slice q0 sl.length c0, .slice q1 ps.length c1, .slice q2 ls.length c2, .slice q3 ops.length c3, .int .u8 a] w fun e w' => e = .returned (.bool true) ∧ Mod No w w' := by
  obtain ⟨S, hSl, hSI, hbeg⟩ := begin2_in sl hs.ranges (by omega)
  have hpl2 : ps.length ≤ 140737488355328 := by omega
  have hll2 : ls.length ≤ 140737488355328 := by omega
  have HS := Lib.hid hs
  have HP := Lib.hid hp
  have HPN := Lib.hid hpn
  have HLS := Lib.hid hls
  have HO := Lib.hid ho
  have HB := Lib.hid hbeg
  clear hs hp hbeg hSI hSl ho hls hpn hsl
  go_enter Try.func9, Try.ntmps9
  go_wp2_with fail
  refine (HB.out w q0 c0 HS.out).mono ?_
  rintro e w1 ⟨B, F, K, rfl, h1⟩
  have H1 := Lib.hid h1
  clear h1
  go_wp2_with fail
  refine (HB.out w1 q0 c0 (HS.out.kept H1.out.mod)).mono ?_
  rintro e w2 ⟨B2, F2, K2, rfl, h2⟩
  have HT := Lib.hid (TwoB.of H1.out h2)
  clear h2 H1
  by_cases hlong : 32 < ps.length ∨ 32 < ls.length
  · by_cases hl1 : 32 < ps.length
    · have d1 : decide ((32 : Int) < ps.length) = true := decide_eq_true (by omega)
      have d2 : decide (32 < ps.length) = true := decide_eq_true hl1
      go_wp2
      go_ret
      exact ⟨rfl, HT.out.mod⟩
    · have d1 : decide ((32 : Int) < ps.length) = false := decide_eq_false (by omega)
      have d2 : decide (32 < ps.length) = false := decide_eq_false hl1
      have d3 : decide ((32 : Int) < ls.length) = true := decide_eq_true (by omega)
      have d4 : decide (32 < ls.length) = true := decide_eq_true (by omega)
      go_wp2
      go_ret
      exact ⟨rfl, HT.out.mod⟩
  · have d1 : decide ((32 : Int) < ps.length) = false := decide_eq_false (by omega)
    have d2 : decide (32 < ps.length) = false := decide_eq_false (by omega)
    have d3 : decide ((32 : Int) < ls.length) = false := decide_eq_false (by omega)
    have d4 : decide (32 < ls.length) = false := decide_eq_false (by omega)
    obtain ⟨M, hM, hM0, hM1⟩ : ∃ M : Nat, a.tmod 8 = M ∧ M ≤ 7 ∧ a % 8 = M := ⟨(a % 8).toNat, by rw [Int.tmod_eq_emod_of_nonneg ha.1]; omega, by omega, by omega⟩
    clear hM1 ha
    go_upto_region 6 with (fail)
    go_upto_region 7 with (at_builtin; refine wpList_append_pk rfl _ _ rfl w2.heap.size (.slice (some ⟨w2.heap.size, 0, none⟩) 0 0) [] rfl (own_none (heap_alloc_new w2 (.cells #[] 77)) (Nat.le_refl _)) q1 ps c1 rfl (HP.out.kept (HT.out.mod.trans ((Mod.refl No w2).alloc _))) HPN.out (by simp; omega) (by simp) ?_; intro v' w3 hown hgrow)
    rw [List.nil_append] at hown
    obtain ⟨qm, cm, rfl⟩ := owns_slice hown
    obtain ⟨bs, hbs⟩ : ∃ n, n = w2.heap.size := ⟨_, rfl⟩
    have hm3 : Mod No w2 w3 := ((Mod.refl No w2).alloc _).grown hgrow (fun j ej hj => by cases ej; exact absurd hj (Nat.lt_irrefl _))
    have h0 : w3.ownsRow bs 77 4 (.slice qm (moreP M ps ls 0).length cm) (moreP M ps ls 0).length (pkCells (moreP M ps ls 0)) := by
      rw [moreP_zero, hbs]; exact hown
    have e0 : ps.length = (moreP M ps ls 0).length := by rw [moreP_zero]
    have HM3 := Lib.hid hm3
    have HBS := Lib.hid hbs
    have H0 := Lib.hid h0
    have HE0 := Lib.hid e0
    clear hown hgrow hm3 hbs h0 e0
    go_wp2_with fail
    go_loopw [18, 19] (fun m v wr => ∃ (i : Nat) (q : Option Addr) (c : Nat), i ≤ ls.length ∧ v = .int .i64 i ∧ m = .slice q (ps.length + i) c ∧ wr.ownsRow bs 77 4 (.slice q (ps.length + i) c) (moreP M ps ls i).length (pkCells (moreP M ps ls i)) ∧ Mod No w2 wr) (fun _ v _ => ls.length - (intOf v).toNat)
    case atStart => exact ⟨0, qm, cm, Nat.zero_le _, rfl, rfl, by rw [show ps.length + 0 = (moreP M ps ls 0).length from by rw [moreP_zero]; rfl]; exact H0.out, HM3.out⟩
    case round =>
      obtain ⟨i, q, c, hi, rfl, rfl, hown, hm⟩ := hrel
      by_cases hlt : i < ls.length
      · have hlt' : (i : Int) < ls.length := by omega
        have b0 : (0 : Int) ≤ i := by omega
        obtain ⟨p, hp⟩ : ∃ p, ls[i]? = some p := ⟨_, List.getElem?_eq_getElem hlt⟩
        obtain ⟨sb, so, rfl, _, x0, x1, x2, x3⟩ := (HLS.out.kept (HT.out.mod.trans hm)).cellsAt hp
        have HOWN := Lib.hid hown
        have HM := Lib.hid hm
        have hbox := heap_alloc_new wr (.cells p.cells.toArray 77)
        have HBX := Lib.hid hbox
        have HPP := Lib.hid hp
        clear hown hm hp hbox
        by_cases hpa : p.at_ < M
        · have hlp : lateP M p = ⟨(M : Int), p.mfn, p.off, p.bq, p.bs, p.bc⟩ := by unfold lateP; rw [if_pos hpa]
          have hok : (⟨(M : Int), p.mfn, p.off, p.bq, p.bs, p.bc⟩ : Pk).ok w := by rw [← hlp]; exact lateP_ok (by omega) (HLS.out.ok p (List.mem_of_getElem? HPP.out))
          have HAL : Hid (Mod No wr ((wr.alloc (.cells #[.int .i64 (M : Int), .int .i64 p.mfn, .int .i64 p.off, .slice p.bq p.bs.length p.bc] 77)).alloc (.cells #[.int .i64 (M : Int), .int .i64 p.mfn, .int .i64 p.off, .slice p.bq p.bs.length p.bc] 77))) := ((Mod.refl No wr).alloc _).alloc _
          have hg1 : ((wr.alloc (.cells #[.int .i64 (M : Int), .int .i64 p.mfn, .int .i64 p.off, .slice p.bq p.bs.length p.bc] 77)).alloc (.cells #[.int .i64 (M : Int), .int .i64 p.mfn, .int .i64 p.off, .slice p.bq p.bs.length p.bc] 77)).heap[wr.heap.size + 1]? = some (.cells (⟨(M : Int), p.mfn, p.off, p.bq, p.bs, p.bc⟩ : Pk).cells.toArray 77 (0, 0)) := by
            have := heap_alloc_new (wr.alloc (.cells #[.int .i64 (M : Int), .int .i64 p.mfn, .int .i64 p.off, .slice p.bq p.bs.length p.bc] 77)) (.cells #[.int .i64 (M : Int), .int .i64 p.mfn, .int .i64 p.off, .slice p.bq p.bs.length p.bc] 77)
            rw [World.size_alloc] at this
            exact this
          have HPK := Lib.hid (pk_one hg1 (hok.kept (HT.out.mod.trans (HM.out.trans HAL.out))))
          have hml := moreP_len M ps ls i hi
          have HLP := Lib.hid hlp
          have HML := Lib.hid hml
          have hsz2 := HM.out.size
          have hown2 : ((wr.alloc (.cells #[.int .i64 (M : Int), .int .i64 p.mfn, .int .i64 p.off, .slice p.bq p.bs.length p.bc] 77)).alloc (.cells #[.int .i64 (M : Int), .int .i64 p.mfn, .int .i64 p.off, .slice p.bq p.bs.length p.bc] 77)).ownsRow bs 77 4 (.slice q (ps.length + i) c) (moreP M ps ls i).length (pkCells (moreP M ps ls i)) := own_mod HOWN.out HAL.out (fun _ _ q => q)
          have HOWN2 := Lib.hid hown2
          have hbl : ((moreP M ps ls i).length + [(⟨(M : Int), p.mfn, p.off, p.bq, p.bs, p.bc⟩ : Pk)].length) * 48 ≤ 140737488355328 := by rw [HML.out]; simp; omega
          have HBL := Lib.hid hbl
          have hbb : bs ≤ ((wr.alloc (.cells #[.int .i64 (M : Int), .int .i64 p.mfn, .int .i64 p.off, .slice p.bq p.bs.length p.bc] 77)).alloc (.cells #[.int .i64 (M : Int), .int .i64 p.mfn, .int .i64 p.off, .slice p.bq p.bs.length p.bc] 77)).heap.size := by have h1 := HBS.out; simp only [World.size_alloc]; omega
          have HBB := Lib.hid hbb
          clear hlp hok hg1 hml hsz2 hown2 hbl hbb
          have e1 : decide (p.at_ < (M : Int)) = true := decide_eq_true hpa
          go_upto_region 13 with (fail)
          go_wp2_with (at_builtin; refine wpList_append_pk rfl _ _ rfl bs (.slice q (ps.length + i) c) (moreP M ps ls i) rfl HOWN2.out (some ⟨wr.heap.size + 1, 0, none⟩) [(⟨(M : Int), p.mfn, p.off, p.bq, p.bs, p.bc⟩ : Pk)] 1 rfl HPK.out (fun h => by cases h) HBL.out HBB.out ?_; intro v' w5 hown5 hgrow5; obtain ⟨q5, c5, rfl⟩ := owns_slice hown5; have HOWN5 := Lib.hid hown5; have HGROW5 := Lib.hid hgrow5; clear hown5 hgrow5)
          have hl5 : (moreP M ps ls i ++ [(⟨(M : Int), p.mfn, p.off, p.bq, p.bs, p.bc⟩ : Pk)]).length = ps.length + (i + 1) := by rw [List.length_append, HML.out]; rfl
          have hown5 := HOWN5.out
          rw [hl5] at hown5
          have he : moreP M ps ls i ++ [(⟨(M : Int), p.mfn, p.off, p.bq, p.bs, p.bc⟩ : Pk)] = moreP M ps ls (i + 1) := by rw [moreP_succ M ps ls i p HPP.out, HLP.out]
          rw [he] at hown5
          have hml1 := moreP_len M ps ls (i + 1) (by omega)
          have hm5 : Mod No w2 w5 := (HM.out.trans HAL.out).step ((Mod.refl _ _).grown HGROW5.out (fun j ej _ => ej.symm) : Mod (fun j => some j = (Value.slice q (ps.length + i) c).ownBlock) _ w5) (fun j hj e => by have h1 := (HOWN2.out.lt j e.symm).1; have h2 := HBS.out; omega)
          rw [← hml1] at hown5
          have HOW6 := Lib.hid hown5
          have HM6 := Lib.hid hm5
          clear hown5 hm5 hml1 he hl5
          go_roundw
          case rel => exact ⟨i + 1, q5, c5, by omega, by go_num, by rw [HML.out]; rfl, by rw [← moreP_len M ps ls (i + 1) (by omega)]; exact HOW6.out, HM6.out⟩
          case measure => simp [intOf]; omega
        · have hlp : lateP M p = ⟨p.at_, p.mfn, p.off, p.bq, p.bs, p.bc⟩ := by unfold lateP; rw [if_neg hpa]
          have hok : (⟨p.at_, p.mfn, p.off, p.bq, p.bs, p.bc⟩ : Pk).ok w := by rw [← hlp]; exact lateP_ok (by omega) (HLS.out.ok p (List.mem_of_getElem? HPP.out))
          have HAL : Hid (Mod No wr ((wr.alloc (.cells #[.int .i64 p.at_, .int .i64 p.mfn, .int .i64 p.off, .slice p.bq p.bs.length p.bc] 77)).alloc (.cells #[.int .i64 p.at_, .int .i64 p.mfn, .int .i64 p.off, .slice p.bq p.bs.length p.bc] 77))) := ((Mod.refl No wr).alloc _).alloc _
          have hg1 : ((wr.alloc (.cells #[.int .i64 p.at_, .int .i64 p.mfn, .int .i64 p.off, .slice p.bq p.bs.length p.bc] 77)).alloc (.cells #[.int .i64 p.at_, .int .i64 p.mfn, .int .i64 p.off, .slice p.bq p.bs.length p.bc] 77)).heap[wr.heap.size + 1]? = some (.cells (⟨p.at_, p.mfn, p.off, p.bq, p.bs, p.bc⟩ : Pk).cells.toArray 77 (0, 0)) := by
            have := heap_alloc_new (wr.alloc (.cells #[.int .i64 p.at_, .int .i64 p.mfn, .int .i64 p.off, .slice p.bq p.bs.length p.bc] 77)) (.cells #[.int .i64 p.at_, .int .i64 p.mfn, .int .i64 p.off, .slice p.bq p.bs.length p.bc] 77)
            rw [World.size_alloc] at this
            exact this
          have HPK := Lib.hid (pk_one hg1 (hok.kept (HT.out.mod.trans (HM.out.trans HAL.out))))
          have hml := moreP_len M ps ls i hi
          have HLP := Lib.hid hlp
          have HML := Lib.hid hml
          have hsz2 := HM.out.size
          have hown2 : ((wr.alloc (.cells #[.int .i64 p.at_, .int .i64 p.mfn, .int .i64 p.off, .slice p.bq p.bs.length p.bc] 77)).alloc (.cells #[.int .i64 p.at_, .int .i64 p.mfn, .int .i64 p.off, .slice p.bq p.bs.length p.bc] 77)).ownsRow bs 77 4 (.slice q (ps.length + i) c) (moreP M ps ls i).length (pkCells (moreP M ps ls i)) := own_mod HOWN.out HAL.out (fun _ _ q => q)
          have HOWN2 := Lib.hid hown2
          have hbl : ((moreP M ps ls i).length + [(⟨p.at_, p.mfn, p.off, p.bq, p.bs, p.bc⟩ : Pk)].length) * 48 ≤ 140737488355328 := by rw [HML.out]; simp; omega
          have HBL := Lib.hid hbl
          have hbb : bs ≤ ((wr.alloc (.cells #[.int .i64 p.at_, .int .i64 p.mfn, .int .i64 p.off, .slice p.bq p.bs.length p.bc] 77)).alloc (.cells #[.int .i64 p.at_, .int .i64 p.mfn, .int .i64 p.off, .slice p.bq p.bs.length p.bc] 77)).heap.size := by have h1 := HBS.out; simp only [World.size_alloc]; omega
          have HBB := Lib.hid hbb
          clear hlp hok hg1 hml hsz2 hown2 hbl hbb
          have e1 : decide (p.at_ < (M : Int)) = false := decide_eq_false hpa
          go_upto_region 13 with (fail)
          go_wp2_with (at_builtin; refine wpList_append_pk rfl _ _ rfl bs (.slice q (ps.length + i) c) (moreP M ps ls i) rfl HOWN2.out (some ⟨wr.heap.size + 1, 0, none⟩) [(⟨p.at_, p.mfn, p.off, p.bq, p.bs, p.bc⟩ : Pk)] 1 rfl HPK.out (fun h => by cases h) HBL.out HBB.out ?_; intro v' w5 hown5 hgrow5; obtain ⟨q5, c5, rfl⟩ := owns_slice hown5; have HOWN5 := Lib.hid hown5; have HGROW5 := Lib.hid hgrow5; clear hown5 hgrow5)
          have hl5 : (moreP M ps ls i ++ [(⟨p.at_, p.mfn, p.off, p.bq, p.bs, p.bc⟩ : Pk)]).length = ps.length + (i + 1) := by rw [List.length_append, HML.out]; rfl
          have hown5 := HOWN5.out
          rw [hl5] at hown5
          have he : moreP M ps ls i ++ [(⟨p.at_, p.mfn, p.off, p.bq, p.bs, p.bc⟩ : Pk)] = moreP M ps ls (i + 1) := by rw [moreP_succ M ps ls i p HPP.out, HLP.out]
          rw [he] at hown5
          have hml1 := moreP_len M ps ls (i + 1) (by omega)
          have hm5 : Mod No w2 w5 := (HM.out.trans HAL.out).step ((Mod.refl _ _).grown HGROW5.out (fun j ej _ => ej.symm) : Mod (fun j => some j = (Value.slice q (ps.length + i) c).ownBlock) _ w5) (fun j hj e => by have h1 := (HOWN2.out.lt j e.symm).1; have h2 := HBS.out; omega)
          rw [← hml1] at hown5
          have HOW6 := Lib.hid hown5
          have HM6 := Lib.hid hm5
          clear hown5 hm5 hml1 he hl5
          go_roundw
          case rel => exact ⟨i + 1, q5, c5, by omega, by go_num, by rw [HML.out]; rfl, by rw [← moreP_len M ps ls (i + 1) (by omega)]; exact HOW6.out, HM6.out⟩
          case measure => simp [intOf]; omega
      · obtain rfl : i = ls.length := by omega
        have hml := moreP_len M ps ls ls.length (Nat.le_refl _)
        obtain ⟨L, hL⟩ : ∃ L, L = moreP M ps ls ls.length := ⟨_, rfl⟩
        have hdue : ∀ N : Int, N < M → dueAt L N = dueAt ps N := fun N hN => by rw [hL]; exact dueAt_more M N ps ls _ hN
        have hokL : ∀ o ∈ L, o.ok w := by rw [hL]; exact moreP_ok (by omega) HP.out.ok HLS.out.ok
        rw [← hL] at hml hown
        rw [← hml] at hown ⊢
        have hmw := HT.out.mod.trans hm
        have HPL := Lib.hid (PkS.ofOwn hown (fun o ho => (hokL o ho).kept hmw))
        have HDUE := Lib.hid hdue
        have HTB := Lib.hid (HT.out.no hm)
        have HMW := Lib.hid hmw
        have hL64 : L.length ≤ 64 := by omega
        have HM := Lib.hid hm
        clear hown hokL hL hdue hm hmw hml
        go_wp2_with fail
        refine (vnew_in q1 ps c1 _ HTB.out.a (HP.out.kept HMW.out) (by omega)).mono ?_
        rintro e w5 ⟨k, rfl, hm5, hv5⟩
        have HM5 := Lib.hid hm5
        have HV5 := Lib.hid hv5
        clear hm5 hv5
        go_wp2_with fail
        refine (vnew_in q L c _ (HTB.out.no HM5.out).b (HPL.out.kept HM5.out) hL64).mono ?_
        rintro e w6 ⟨k2, rfl, hm6, hv6⟩
        have HTV := Lib.hid (HTB.out.views HM5.out HV5.out hm6 hv6)
        clear hm6 hv6 HM5 HV5
        generalize wr.heap.size = b1 at HTV
        generalize w5.heap.size = b2 at HTV
        generalize w6.heap.size = t2 at HTV
        have hneq := ptr_eql_same ⟨B, 0, none⟩
        go_wp2_with fail
        go_loopw [25] (fun v wx => ∃ (j : Nat) (N : Int) (T : List Fr), j ≤ ops.length ∧ v = .int .i64 j ∧ 0 ≤ N ∧ N ≤ M ∧ TwoV w B F b1 b2 k N ps T B2 F2 b2 t2 k2 N L T wx) (fun v _ => ops.length - (intOf v).toNat)
        case atStart => exact ⟨0, 0, S, Nat.zero_le _, rfl, by omega, by omega, HTV.out⟩
        case round =>
          obtain ⟨j, N, T, hj, rfl, hN0, hN1, htw⟩ := hrel
          have HTW := Lib.hid htw
          clear htw
          by_cases hlt : j < ops.length
          · have hlt' : (j : Int) < ops.length := by omega
            have b0 : (0 : Int) ≤ j := by omega
            by_cases hNM : N < M
            · have f1 : decide (N < (M : Int)) = true := decide_eq_true hNM
              obtain ⟨o, ho⟩ : ∃ o, ops[j]? = some o := ⟨_, List.getElem?_eq_getElem hlt⟩
              obtain ⟨sb, so, rfl, _, x0, x1, x2, x3, x4⟩ := (HO.out.kept HTW.out.a.mod).cellsAt ho
              have HDN := Lib.hid (HDUE.out N hNM)
              rename World => wx
              have hal : Mod No wx (wx.alloc (.cells #[.int .i64 o.what, .int .i64 o.mfn, .int .i64 o.off, .int .i64 o.n, .slice o.bq o.bs.length o.bc] 79)) := (Mod.refl No wx).alloc _
              have hbx : (wx.alloc (.cells #[.int .i64 o.what, .int .i64 o.mfn, .int .i64 o.off, .int .i64 o.n, .slice o.bq o.bs.length o.bc] 79)).heap[wx.heap.size]? = some (.cells #[.int .i64 o.what, .int .i64 o.mfn, .int .i64 o.off, .int .i64 o.n, .slice o.bq o.bs.length o.bc] 79 (0, 0)) := heap_alloc_new _ _
              have htw1 := HTW.out.no hal
              have hnF : wx.heap.size ≠ F := by have := HTW.out.a.p.ltF; omega
              have hnk : wx.heap.size ≠ k.V := by have := lt_of_blk HTW.out.a.v.head; omega
              have hnF2 : Hid (∀ g, wx.heap.size ≤ g → ¬ (g = F2 ∨ g = k2.V)) := fun g hg q => by
                have h1 := HTW.out.b.p.ltF
                have h2 := lt_of_blk HTW.out.b.v.head
                rcases q with e | e <;> omega
              have HNFK : Hid (¬ (wx.heap.size = F ∨ wx.heap.size = k.V)) := fun q => q.elim hnF hnk
              have HT1 := Lib.hid htw1
              have HBX := Lib.hid hbx
              have HAL := Lib.hid hal
              clear htw1 hnF hnk hbx hal ho
              by_cases hp : InP T o.mfn o.off o.n
              · obtain ⟨f, hf⟩ : ∃ f, (pokes (dueAt ps N) T)[o.mfn.toNat]? = some f := ⟨_, List.getElem?_eq_getElem (by rw [pokes_len]; have := hp.1; omega)⟩
                have hfo : f.ok := HT1.out.a.v.okS HT1.out.a.p.ok N f (List.mem_of_getElem? hf)
                obtain ⟨xs, hxs⟩ : ∃ xs, xs = (f.bytes.drop o.off.toNat).take o.n.toNat := ⟨_, rfl⟩
                have hxl : xs.length = o.n.toNat := by have := hp.2; rw [hxs]; simp [hfo.1]; omega
                have HXL := Lib.hid hxl
                have HXS := Lib.hid hxs
                have HA := Lib.hid (vread_ok o.mfn o.off o.n f _ HT1.out.a.p HT1.out.a.v HT1.out.a.F.2 ⟨hN0, by omega⟩ hpl2 hp hf)
                have HPI := Lib.hid hp
                have HF := Lib.hid hf
                clear hp hf hfo hxl hxs
                go_wp2_with (go_at_call 36; refine (vreads_made HTW.out.a.v).mono ?_; rintro e w' ⟨rfl, rfl⟩)
                refine HA.out.mono ?_
                rintro e w7 ⟨g, rfl, hg0, hg1, hrow, ho5⟩
                have HT5 := Lib.hid (HT1.out.stepA ho5)
                have hbx5 := ho5.mod.blk HBX.out HNFK.out
                have z1 := row_cell (l := [Value.int .i64 o.what, .int .i64 o.mfn, .int .i64 o.off, .int .i64 o.n, .slice o.bq o.bs.length o.bc]) hbx5 1
                have z2 := row_cell (l := [Value.int .i64 o.what, .int .i64 o.mfn, .int .i64 o.off, .int .i64 o.n, .slice o.bq o.bs.length o.bc]) hbx5 2
                have z3 := row_cell (l := [Value.int .i64 o.what, .int .i64 o.mfn, .int .i64 o.off, .int .i64 o.n, .slice o.bq o.bs.length o.bc]) hbx5 3
                simp only [List.getElem?_cons_zero, List.getElem?_cons_succ] at z1 z2 z3
                rw [← HXS.out] at hrow
                have HROW := Lib.hid hrow
                have hgs : wx.heap.size ≤ g := by have := HAL.out.size; omega
                clear ho5 hbx5 hrow HA hg0
                go_wp2_with fail
                refine (vread_ok o.mfn o.off o.n f w7 HT5.out.b.p HT5.out.b.v HT5.out.b.F.2 ⟨hN0, by omega⟩ (by omega) HPI.out (by rw [HDN.out]; exact HF.out)).mono ?_
                rintro e w8 ⟨g2, rfl, _, _, hrow2, ho6⟩
                rw [HDN.out] at ho6
                rw [← HXS.out] at hrow2
                have HT6 := Lib.hid (HT5.out.stepB ho6)
                have hg8 := ho6.mod.blk HROW.out (hnF2.out g hgs)
                have hcv := conv_row (w := w8) hg8 0 o.n.toNat o.n.toNat xs (by rw [List.drop_zero, List.take_of_length_le (by rw [HXL.out]; exact Nat.le_refl _)]) (by rw [HXL.out]; omega)
                have hcv2 := conv_row (w := w8) hrow2 0 o.n.toNat o.n.toNat xs (by rw [List.drop_zero, List.take_of_length_le (by rw [HXL.out]; exact Nat.le_refl _)]) (by rw [HXL.out]; omega)
                clear ho6 hrow2 hg8 z1 z2 z3 hgs hg1
                go_wp2_with (go_at_call 36; first | (refine (vreads_made HT6.out.a.v).mono ?_; rintro e w' ⟨rfl, rfl⟩) | (refine (vreads_made HT6.out.b.v).mono ?_; rintro e w' ⟨rfl, rfl⟩))
                go_roundw
                case rel => exact ⟨j + 1, N + 1, _, by omega, by go_num, by omega, by omega, HT6.out⟩
                case measure => simp [intOf]; omega
              · have HA := Lib.hid (vread_bad o.mfn o.off o.n _ HT1.out.a.p HT1.out.a.v HT1.out.a.F.2 ⟨hN0, by omega⟩ hpl2 hp)
                have HPI := Lib.hid hp
                clear hp
                go_wp2_with (go_at_call 36; refine (vreads_made HTW.out.a.v).mono ?_; rintro e w' ⟨rfl, rfl⟩)
                refine HA.out.mono ?_
                rintro e w7 ⟨rfl, ho5⟩
                have HT5 := Lib.hid (HT1.out.stepA ho5)
                have hbx5 := ho5.mod.blk HBX.out HNFK.out
                have z1 := row_cell (l := [Value.int .i64 o.what, .int .i64 o.mfn, .int .i64 o.off, .int .i64 o.n, .slice o.bq o.bs.length o.bc]) hbx5 1
                have z2 := row_cell (l := [Value.int .i64 o.what, .int .i64 o.mfn, .int .i64 o.off, .int .i64 o.n, .slice o.bq o.bs.length o.bc]) hbx5 2
                have z3 := row_cell (l := [Value.int .i64 o.what, .int .i64 o.mfn, .int .i64 o.off, .int .i64 o.n, .slice o.bq o.bs.length o.bc]) hbx5 3
                simp only [List.getElem?_cons_zero, List.getElem?_cons_succ] at z1 z2 z3
                clear ho5 hbx5 HA
                go_wp2_with fail
                refine (vread_bad o.mfn o.off o.n w7 HT5.out.b.p HT5.out.b.v HT5.out.b.F.2 ⟨hN0, by omega⟩ (by omega) HPI.out).mono ?_
                rintro e w8 ⟨rfl, ho6⟩
                rw [HDN.out] at ho6
                have HT6 := Lib.hid (HT5.out.stepB ho6)
                have hcn : ∀ w, (convert 33 9 (.slice none 0 0)).run Try.prog w = .ok (.string (strOfNums [])) w := fun _ => rfl
                clear ho6 z1 z2 z3
                go_wp2_with (go_at_call 36; first | (refine (vreads_made HT6.out.a.v).mono ?_; rintro e w' ⟨rfl, rfl⟩) | (refine (vreads_made HT6.out.b.v).mono ?_; rintro e w' ⟨rfl, rfl⟩))
                go_roundw
                case rel => exact ⟨j + 1, N + 1, _, by omega, by go_num, by omega, by omega, HT6.out⟩
                case measure => simp [intOf]; omega
            · have f1 : decide (N < (M : Int)) = false := decide_eq_false hNM
              go_wp2_with (first
                | (go_at_call 36; refine (vreads_made HTW.out.a.v).mono ?_; rintro e w' ⟨rfl, rfl⟩)
                | (go_at_call 39; refine (vmachine_made k.V B _ HTW.out.a.v.c0.1).mono ?_; rintro e w' ⟨rfl, rfl⟩))
              go_ret
              exact ⟨rfl, HTW.out.a.mod⟩

          · go_wp2_with (first
              | (go_at_call 36; refine (vreads_made HTW.out.a.v).mono ?_; rintro e w' ⟨rfl, rfl⟩)
              | (go_at_call 39; refine (vmachine_made k.V B _ HTW.out.a.v.c0.1).mono ?_; rintro e w' ⟨rfl, rfl⟩))
            go_ret
            exact ⟨rfl, HTW.out.a.mod⟩

end Go.Proofs.Ythfkpbfapkpnfab
