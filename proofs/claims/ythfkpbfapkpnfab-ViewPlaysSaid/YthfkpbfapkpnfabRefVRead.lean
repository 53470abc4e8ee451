/- tenementref02.View: New, Read. -/
import Derived.Test.YthfkpbfapkpnfabRefView
import Derived.Test.YthfkpbfapkpnfabViewNew
namespace Go.Proofs.Ythfkpbfapkpnfab
open Go.RowKit
set_option maxRecDepth 100000

theorem rvnew_long {K : RfK} (q : Option Addr) (n c : Nat) (w : World) (hn : 64 < n) (hn2 : n ≤ 140737488355328) :
    Calls Try.prog 41 #[.pointer (some ⟨K.R, 0, none⟩), .slice q n c] w fun e w' => e = .returned (.tuple #[.pointer none, .int .i64 2]) ∧ w = w' := by
  have d1 : decide ((64 : Int) < n) = true := decide_eq_true (by omega)
  have d2 : decide (64 < n) = true := decide_eq_true (by omega)
  go_enter Try.func41, Try.ntmps41
  go_wp2
  go_ret2
  exact ⟨rfl, rfl⟩

theorem rvnew_in {K : RfK} (q : Option Addr) (l : List Pk) (c : Nat) (w : World) (hn : l.length ≤ 64) :
    Calls Try.prog 41 #[.pointer (some ⟨K.R, 0, none⟩), .slice q l.length c] w fun e w' => ∃ X, e = .returned (.tuple #[.pointer (some ⟨X, 0, none⟩), .int .i64 0]) ∧ w.heap.size ≤ X ∧ Mod No w w' ∧ RvM w' X K q c l 0 := by
  have d1 : decide ((64 : Int) < l.length) = false := decide_eq_false (by omega)
  have d2 : decide (64 < l.length) = false := decide_eq_false (by omega)
  go_enter Try.func41, Try.ntmps41
  go_wp2
  go_ret2
  exact ⟨w.heap.size, rfl, Nat.le_refl _, (Mod.refl No w).alloc _, ⟨heap_alloc_new _ _⟩⟩

set_option maxHeartbeats 4000000 in
theorem rvread_any {K : RfK} {S : List Fr} {X : Nat} {q : Option Addr} {cap : Nat} {l : List Pk} {N : Int} (mfn off n : Int) (w0 w : World) (hs : PkS w0 q l) (hm0 : Mod No w0 w) (hK : ∀ k, K.has k → w0.heap.size ≤ k)
    (h : RfM w K S) (hx : RvM w X K q cap l N) (hN : 0 ≤ N ∧ N < 4611686018427387904) (hl : l.length ≤ 140737488355328)
    (Q : Ending → World → Prop) (hQ : ∀ w', Mod (fun i => K.inn i ∨ i = X) w w' → RfM w' K (pokes (dueAt l N) S) → RvM w' X K q cap l (N + 1) →
      Calls Try.prog 74 #[.pointer (some ⟨K.R, 0, none⟩), .int .i64 mfn, .int .i64 off, .int .i64 n] w' fun e w2 => ∃ a b, e = .returned (.tuple #[a, b]) ∧ Q (.returned (.tuple #[a, b])) w2) :
    Calls Try.prog 83 #[.pointer (some ⟨X, 0, none⟩), .int .i64 mfn, .int .i64 off, .int .i64 n] w Q := by
  have HQ := Lib.hid hQ
  have HS := Lib.hid hs
  have HM0 := Lib.hid hm0
  have HX := Lib.hid hx
  have HH := Lib.hid h
  have HNX := Lib.hid (hx.ne h)
  clear hQ hs hm0 hx h
  go_enter Try.func83, Try.ntmps83
  go_wp2_with fail
  go_loopw [10] (fun v wr => ∃ i : Nat, i ≤ l.length ∧ v = .int .i64 i ∧ Mod K.inn w wr ∧ RfM wr K (pokes (dueAt (l.take i) N) S)) (fun v _ => l.length - (intOf v).toNat)
  case atStart => exact ⟨0, Nat.zero_le _, rfl, Mod.refl _ _, HH.out⟩
  case round =>
    obtain ⟨i, hi, rfl, hm, hR⟩ := hrel
    have hx := HX.out.kept hm HNX.out
    obtain ⟨x0, x1, x2, x3⟩ := hx.c
    by_cases hlt : i < l.length
    · obtain ⟨p, hp⟩ : ∃ p, l[i]? = some p := ⟨_, List.getElem?_eq_getElem hlt⟩
      have hm0r : Mod No w0 wr := HM0.out.step hm (fun k hk q => by have := hK k (RfK.inn_has q); omega)
      obtain ⟨sb, so, rfl, hsb, c0, c1, c2, c3⟩ := (HS.out.kept hm0r).cellsAt hp
      have hok := HS.out.ok p (List.mem_of_getElem? hp)
      have hsn := dueAt_snoc l i p N hp
      have b3 : (0 : Int) ≤ i := by omega
      have b4 : (i : Int) < l.length := by omega
      by_cases hpN : p.at_ = N
      · have d1 : (p.at_ == N) = true := beq_iff_eq.2 hpN
        rw [if_pos hpN.symm] at hsn
        have HRW : Hid (∀ q, Calls Try.prog 101 #[.pointer (some ⟨X, 0, none⟩), .agg #[.int .i64 p.at_, .int .i64 p.mfn, .int .i64 p.off, .slice p.bq p.bs.length p.bc]] (wr.drewN q) fun e w' => (∃ v, e = .returned v) ∧ Mod K.inn (wr.drewN q) w' ∧ RfM w' K (p.poke (pokes (dueAt (l.take i) N) S))) :=
          fun q => rrewrite_in p (wr.drewN q) (hR.keptNo ((Mod.refl No wr).drewN q)) (hx.kept ((Mod.refl No wr).drewN q) (fun q => q)) hok.b.range (hok.b.rsrc (hm0r.drewN q) hK)
        have hsn2 : p.poke (pokes (dueAt (l.take i) N) S) = pokes (dueAt (l.take (i + 1)) N) S := by
          rw [hsn]; simp [pokes]
        rw [hsn2] at HRW
        have HM := Lib.hid hm
        clear hm hR hx hm0r hok hsn hsn2 hp hpN
        go_wp2_with fail
        go_quiet (fail)
        go_wp2_with fail
        refine (HRW.out nq).mono ?_
        rintro e w2 ⟨⟨u, rfl⟩, hm2, hR2⟩
        have HM2 : Hid (Mod K.inn w w2) := (HM.out.drewN nq).trans hm2
        have HR2 := Lib.hid hR2
        clear hm2 hR2 x0 x1 x2 x3 c0 c1 c2 c3
        go_wp2
        go_roundw
        case rel => exact ⟨i + 1, by omega, by go_num, HM2.out, HR2.out⟩
        case measure => simp [intOf]; omega
      · have d1 : (p.at_ == N) = false := beq_eq_false_iff_ne.2 hpN
        rw [if_neg (fun e => hpN e.symm)] at hsn
        rw [← hsn] at hR
        have HM := Lib.hid hm
        have HR := Lib.hid hR
        clear hm hR hx hm0r hok hsn hp hpN
        go_wp2_with fail
        go_quiet (fail)
        go_wp2
        go_roundw
        case rel => exact ⟨i + 1, by omega, by go_num, HM.out.drewN _, HR.out.keptNo ((Mod.refl No _).drewN _)⟩
        case measure => simp [intOf]; omega
    · obtain rfl : i = l.length := by omega
      rw [List.take_length] at hR
      have hnX := HNX.out
      have hx1 : RvM (wr.setCell ⟨X, 2, none⟩ (.int .i64 (N + 1))) X K q cap l (N + 1) := ⟨by
        have := row_set (l := [.pointer (some ⟨K.R, 0, none⟩), .slice q l.length cap, .int .i64 N]) hx.head 2 (.int .i64 (N + 1))
        simpa using this⟩
      have HM1 : Hid (Mod (fun i => K.inn i ∨ i = X) w (wr.setCell ⟨X, 2, none⟩ (.int .i64 (N + 1)))) := (hm.mono (fun _ _ q => .inl q)).setCell (p := ⟨X, 2, none⟩) (fun _ => .inr rfl) _
      have hR1 : RfM (wr.setCell ⟨X, 2, none⟩ (.int .i64 (N + 1))) K (pokes (dueAt l N) S) := hR.kept ((Mod.refl (One X) wr).set1 2 _) (fun k hk (e : k = X) => by
        rcases hk with q | q
        · have := hx.head
          obtain ⟨c, d, _, _, hh⟩ := hR.head
          rw [← e, q, hh] at this
          simp at this
        · exact hnX (e ▸ q))
      have HRD := Lib.hid (HQ.out _ HM1.out hR1 hx1)
      clear hx1 hR1 hR hx hm HQ hnX
      go_wp2_with fail
      refine HRD.out.mono ?_
      rintro e w2 ⟨a, b, rfl, hq⟩
      have HQ2 := Lib.hid hq
      clear hq
      go_wp2
      exact HQ2.out

end Go.Proofs.Ythfkpbfapkpnfab
