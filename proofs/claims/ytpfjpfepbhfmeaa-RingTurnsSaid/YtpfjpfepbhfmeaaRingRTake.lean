/- The document's back end over a view: Take, Answer. -/
import Derived.Test.YtpfjpfepbhfmeaaRingRef
namespace Go.Proofs.Ytpfjpfepbhfmeaa
open Go.RowKit
set_option maxRecDepth 100000

theorem RBkM.drewN {w : World} {c : Nat} {k : Bk} (h : RBkM w c k) (n : Nat) : RBkM (w.drewN n) c k := h.no ((Mod.refl No w).drewN n)

set_option maxHeartbeats 4000000 in
theorem rtake_busy {c : Nat} {k : Bk} (X : Nat) (w : World) (h : RBkM w c k) (ho : k.ok) (hb : k.busy) :
    Calls Try.prog 107 #[.pointer (some ⟨c, 0, none⟩), .pointer (some ⟨X, 0, none⟩)] w fun e w' => e = .returned (.tuple #[.slice none 0 0, .int .i64 5]) ∧ Mod No w w' := by
  have HWT := Lib.hid (fun n => rwaiting_made (w.drewN n) (h.drewN n))
  obtain ⟨c0, c1, c2, c3⟩ := h.c
  have hi := ho.i
  have hoo := ho.o
  have hwr : 0 ≤ k.wait ∧ k.wait ≤ 65535 := by unfold Bk.wait; omega
  obtain ⟨d, hd⟩ : ∃ d, d = (k.inn - k.out) % 65536 := ⟨_, rfl⟩
  have hw := u16_sub hd
  have hd0 : 0 ≤ d ∧ d ≤ 65535 := by omega
  unfold Bk.busy Bk.btw at hb
  rw [← hd] at hb
  generalize k.wait = wt at HWT hwr hb
  obtain ⟨m, i, o, s⟩ := k
  dsimp only at *
  clear h hd
  by_cases e1 : wt = 0
  · subst e1
    go_enter Try.func107, Try.ntmps107
    go_wp2_with fail
    go_quiet ((go_at_call 59; exact Calls.quiet_of (HWT.out _)))
    go_wp2
    go_ret2
    exact ⟨rfl, (Mod.refl No w).drewN _⟩
  · have d1 : (wt == 0) = false := beq_eq_false_iff_ne.2 e1
    have e2 : 8 ≤ d := hb.resolve_left e1
    have d2 : decide (8 ≤ d) = true := decide_eq_true e2
    go_enter Try.func107, Try.ntmps107
    go_wp2_with fail
    go_quiet ((go_at_call 59; exact Calls.quiet_of (HWT.out _)))
    go_wp2
    go_ret2
    exact ⟨rfl, (Mod.refl No w).drewN _⟩

theorem slot_wrap (a n x : Int) (ha : 0 ≤ a ∧ a ≤ 1000) (hn : 0 ≤ n ∧ n ≤ 1000) (hx : 0 ≤ x ∧ x ≤ 65535) : IntKind.i64.wrap (a + IntKind.i64.wrap (n * IntKind.i64.wrap (x.tmod 8))) = a + n * (x % 8) := by
  rw [Int.tmod_eq_emod_of_nonneg hx.1]
  have h1 : 0 ≤ x % 8 ∧ x % 8 ≤ 7 := by omega
  have h2 : 0 ≤ n * (x % 8) := Int.mul_nonneg hn.1 h1.1
  have h3 : n * (x % 8) ≤ 1000 * 7 := Int.mul_le_mul hn.2 h1.2 h1.1 (by omega)
  rw [IntWalk.i64_in (x % 8) (by omega), IntWalk.i64_in (n * (x % 8)) (by omega), IntWalk.i64_in (a + n * (x % 8)) (by omega)]

set_option maxHeartbeats 4000000 in
/-- Take, with the read's answer. -/
theorem rtake_any {w0 : World} {X : Nat} {K : RfK} {q : Option Addr} {cap : Nat} {l : List Pk} {N N' : Int} {S S' : List Fr} {c : Nat} {k : Bk} (w : World) (h : RV w0 X K q cap l N S c k w) (hb : ¬ k.busy) (P : Value → World → World → Prop) (er : Int)
    (hP : ∀ v a b b', P v a b → (∀ i, i ≠ c → b'.heap[i]? = b.heap[i]?) → b.heap.size ≤ b'.heap.size → P v a b')
    (hrd : ∀ w', Mod No w w' → Calls Try.prog 88 #[.pointer (some ⟨X, 0, none⟩), .int .i64 k.mfn, .int .i64 k.slot, .int .i64 16] w' fun e w2 => ∃ v, e = .returned (.tuple #[v, .int .i64 er]) ∧ P v w w2 ∧ RVOut X K q cap l N' S' w' w2) :
    Calls Try.prog 107 #[.pointer (some ⟨c, 0, none⟩), .pointer (some ⟨X, 0, none⟩)] w fun e w' => ∃ v, e = .returned (.tuple #[v, .int .i64 er]) ∧ P v w w' ∧ RV w0 X K q cap l N' S' c k.took w' ∧ Mod (Q3 K X c) w w' := by
  have HWT := Lib.hid (fun n => rwaiting_made (w.drewN n) (h.bk.drewN n))
  obtain ⟨c0, c1, c2, c3⟩ := h.bk.c
  have hi := h.ok.i
  have hoo := h.ok.o
  have hwr : 0 ≤ k.wait ∧ k.wait ≤ 65535 := by unfold Bk.wait; omega
  obtain ⟨d, hd⟩ : ∃ d, d = (k.inn - k.out) % 65536 := ⟨_, rfl⟩
  have hw := u16_sub hd
  have hd0 : 0 ≤ d ∧ d ≤ 65535 := by omega
  have hc1 : k.wait ≠ 0 := fun q => hb (.inl q)
  have hc2 : ¬ 8 ≤ d := fun q => hb (.inr (by unfold Bk.btw; rw [← hd]; exact q))
  have HC := Lib.hid h
  have HTK := Lib.hid (took_ok h.ok)
  have HRD := Lib.hid hrd
  have HPP := Lib.hid hP
  obtain ⟨y, hy⟩ : ∃ y, y = (k.inn + 1) % 65536 := ⟨_, rfl⟩
  have hyw : IntKind.u16.wrap (k.inn + 1) = y := by rw [hy]; rfl
  have HY : Hid (k.took = { k with inn := y }) := by rw [hy]; rfl
  have hsl : 16 ≤ k.slot ∧ k.slot ≤ 128 := by unfold Bk.slot; omega
  have HSW : Hid (IntKind.i64.wrap (16 + IntKind.i64.wrap (16 * IntKind.i64.wrap (k.inn.tmod 8))) = k.slot) := slot_wrap 16 16 k.inn (by omega) (by omega) hi
  generalize k.wait = wt at HWT hwr hc1
  generalize k.slot = sl at HRD hsl HSW
  have d1 : (wt == 0) = false := beq_eq_false_iff_ne.2 hc1
  have d2 : decide (8 ≤ d) = false := decide_eq_false hc2
  have HNE := Lib.hid h.ne
  clear hd h hb hrd hP hy hc1 hc2
  go_enter Try.func107, Try.ntmps107
  go_wp2_with fail
  go_quiet ((go_at_call 59; exact Calls.quiet_of (HWT.out _)))
  skip
  have HM0 : Hid (Mod No w (w.drewN nq)) := (Mod.refl No w).drewN nq
  clear c0 c1 c2 c3 HWT
  generalize w.drewN nq = wd at HM0 ⊢
  obtain ⟨c0, c1, _, _⟩ := (HC.out.no HM0.out).bk.c
  have hS1 : (fun w' : World => w'.cell? ⟨c, 0, none⟩ = some (.int .i64 k.mfn) ∧ w'.cell? ⟨c, 1, none⟩ = some (.int .u16 k.inn)) wd := ⟨c0, c1⟩
  have HLC : Hid (c < wd.heap.size) := (HC.out.no HM0.out).bk.lt
  clear c0 c1
  go_wp2_with fail
  go_region_held3 (fun w' : World => w'.cell? ⟨c, 0, none⟩ = some (.int .i64 k.mfn) ∧ w'.cell? ⟨c, 1, none⟩ = some (.int .u16 k.inn)) (first | exact hS1 | assumption) ((go_at_call 88; rw [HSW.out]; refine (HRD.out _ (HM0.out.drew)).mono ?_; rintro e w2 ⟨v, rfl, hp, ho⟩; have hS2 : (fun w' : World => w'.cell? ⟨c, 0, none⟩ = some (.int .i64 k.mfn) ∧ w'.cell? ⟨c, 1, none⟩ = some (.int .u16 k.inn)) w2 := ⟨(World.cell?_of_block (w := wd) (ho.mod.block c HLC.out (fun q => q.elim (fun q => HNE.out.1 (RfK.inn_has q)) HNE.out.2.1))).trans hS1.1, (World.cell?_of_block (w := wd) (ho.mod.block c HLC.out (fun q => q.elim (fun q => HNE.out.1 (RfK.inn_has q)) HNE.out.2.1))).trans hS1.2⟩; have HO := Lib.hid ho; have HPV := Lib.hid hp; clear ho hp))
  obtain ⟨hrv, hm2⟩ := (HC.out.no (HM0.out.drew)).rvout HO.out
  have f1 := hrv.bk.f 1
  obtain ⟨hrv2, hm3⟩ := hrv.set 1 (.int .u16 y) (hrv.bk.setI y) (by have := HTK.out; rw [HY.out] at this; exact this)
  rw [← HY.out] at hrv2
  have HRV2 := Lib.hid hrv2
  have HM2 := Lib.hid (((Mod.of_no (HM0.out.drew)).trans hm2).trans hm3)
  have hx1 := hS2.2
  clear hrv2 hm2 hm3 hrv hS1 hS2
  go_wp2
  go_ret2
  exact ⟨v, rfl, HPP.out _ _ _ _ HPV.out (fun i hi => heap_setCell_other _ _ _ _ hi) (by simp [World.setCell]), HRV2.out, HM2.out⟩

theorem rtake_ok {w0 : World} {X : Nat} {K : RfK} {q : Option Addr} {cap : Nat} {l : List Pk} {N : Int} {S : List Fr} {c : Nat} {k : Bk} (f : Fr) (w : World) (h : RV w0 X K q cap l N S c k w) (hs : PkS w0 q l) (hb : ¬ k.busy) (hN : 0 ≤ N ∧ N < 4611686018427387904) (hl : l.length ≤ 140737488355328)
    (hr : 0 ≤ k.mfn ∧ k.mfn < S.length) (hf : (pokes (dueAt l N) S)[k.mfn.toNat]? = some f) :
    Calls Try.prog 107 #[.pointer (some ⟨c, 0, none⟩), .pointer (some ⟨X, 0, none⟩)] w fun e w' => ∃ v, e = .returned (.tuple #[v, .int .i64 0]) ∧ (w'.ownsRow w.heap.size 5 1 v 16 (((f.bytes.drop k.slot.toNat).take 16).map (Value.int .u8))) ∧ RV w0 X K q cap l (N + 1) (pokes (dueAt l N) S) c k.took w' ∧ Mod (Q3 K X c) w w' := by
  have hlt := h.bk.lt
  refine rtake_any w h hb (fun v a b => b.ownsRow w.heap.size 5 1 v 16 (((f.bytes.drop k.slot.toNat).take 16).map (Value.int .u8))) 0 (fun v a b b' hv hb' _ => ?_) (fun w1 hm1 => ?_)
  · refine ⟨hv.1, ?_⟩
    rcases hv.2 with e | ⟨g, cp, cur, e, hg, hrow, rest⟩
    · exact .inl e
    · exact .inr ⟨g, cp, cur, e, hg, (hb' g (by omega)).trans hrow, rest⟩
  · refine (rvread_ok k.mfn k.slot 16 f w0 w1 hs (h.mod.trans hm1) h.K (h.r.keptNo hm1) (h.x.kept hm1 (fun q => q)) hN hl (slot_in hr) hf).mono ?_
    rintro e w2 ⟨g, cp, rfl, ho, hout⟩
    exact ⟨_, rfl, ownsRow_base ho hm1.size, hout⟩

theorem rtake_bad {w0 : World} {X : Nat} {K : RfK} {q : Option Addr} {cap : Nat} {l : List Pk} {N : Int} {S : List Fr} {c : Nat} {k : Bk} (w : World) (h : RV w0 X K q cap l N S c k w) (hs : PkS w0 q l) (hb : ¬ k.busy) (hN : 0 ≤ N ∧ N < 4611686018427387904) (hl : l.length ≤ 140737488355328)
    (hr : ¬ (0 ≤ k.mfn ∧ k.mfn < S.length)) :
    Calls Try.prog 107 #[.pointer (some ⟨c, 0, none⟩), .pointer (some ⟨X, 0, none⟩)] w fun e w' => ∃ v, e = .returned (.tuple #[v, .int .i64 1]) ∧ v = .slice none 0 0 ∧ RV w0 X K q cap l (N + 1) (pokes (dueAt l N) S) c k.took w' ∧ Mod (Q3 K X c) w w' := by
  refine rtake_any w h hb (fun v _ _ => v = .slice none 0 0) 1 (fun v a b b' hv _ _ => hv) (fun w1 hm1 => ?_)
  refine (rvread_bad k.mfn k.slot 16 w0 w1 hs (h.mod.trans hm1) h.K (h.r.keptNo hm1) (h.x.kept hm1 (fun q => q)) hN hl (fun q => hr q.1)).mono ?_
  rintro e w2 ⟨rfl, ho⟩
  exact ⟨_, rfl, rfl, ho⟩

end Go.Proofs.Ytpfjpfepbhfmeaa
