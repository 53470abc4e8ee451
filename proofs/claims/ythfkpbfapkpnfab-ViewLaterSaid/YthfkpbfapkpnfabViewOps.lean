/- view.View: Read's two ways, Word, Write. -/
import Derived.Test.YthfkpbfapkpnfabViewRead
import Derived.Laws.BitsAllLaws
import Derived.Deep.QuietTactic
import Derived.BigQuiet
namespace Go.Proofs.Ythfkpbfapkpnfab
open Go.RowKit Go.Maps
set_option maxRecDepth 100000

/-- What a read of the code's view leaves. -/
structure VOut (base top B F : Nat) (k : ViK) (N : Int) (l : List Pk) (S : List Fr) (w w' : World) : Prop where
  mod : Mod (fun i => i = F ∨ i = k.V) w w'
  p : PhM w' B F S
  v : ViM w' base top k B N l

theorem inP_len {S T : List Fr} (h : T.length = S.length) {i off n : Int} (hp : InP S i off n) : InP T i off n := ⟨by rw [h]; exact hp.1, hp.2⟩

theorem vread_ok {base top B F : Nat} {k : ViK} {S : List Fr} {N : Int} {l : List Pk} (mfn off n : Int) (f : Fr) (w : World) (h : PhM w B F S) (hv : ViM w base top k B N l) (hF : F < base) (hN : 0 ≤ N ∧ N < 4611686018427387904) (hl : l.length ≤ 140737488355328)
    (hp : InP S mfn off n) (hf : (pokes (dueAt l N) S)[mfn.toNat]? = some f) :
    Calls Try.prog 35 #[.pointer (some ⟨k.V, 0, none⟩), .int .i64 mfn, .int .i64 off, .int .i64 n] w fun e w' => ∃ g, e = .returned (.tuple #[.slice (some ⟨g, 0, none⟩) n.toNat n.toNat, .int .i64 0]) ∧ w.heap.size ≤ g ∧ g < w'.heap.size ∧
      w'.heap[g]? = some (.cells (((f.bytes.drop off.toNat).take n.toNat).map (Value.int .u8)).toArray 5 (0, 0)) ∧ VOut base top B F k (N + 1) l (pokes (dueAt l N) S) w w' := by
  refine vread_any mfn off n w h hv hF hN hl _ (fun w1 hm hP hV => ?_)
  refine (read_in mfn off n f w1 hP (inP_len (pokes_len _ _) hp) hf).mono ?_
  rintro e w2 ⟨rfl, hm2, hs2, hg⟩
  exact ⟨_, _, rfl, w1.heap.size, rfl, hm.size, hs2, hg, hm.trans (Mod.of_no hm2), hP.kept hm2 (fun q => q) (fun q => q), hV.no hm2⟩

theorem vread_bad {base top B F : Nat} {k : ViK} {S : List Fr} {N : Int} {l : List Pk} (mfn off n : Int) (w : World) (h : PhM w B F S) (hv : ViM w base top k B N l) (hF : F < base) (hN : 0 ≤ N ∧ N < 4611686018427387904) (hl : l.length ≤ 140737488355328)
    (hp : ¬ InP S mfn off n) :
    Calls Try.prog 35 #[.pointer (some ⟨k.V, 0, none⟩), .int .i64 mfn, .int .i64 off, .int .i64 n] w fun e w' => e = .returned (.tuple #[.slice none 0 0, .int .i64 1]) ∧ VOut base top B F k (N + 1) l (pokes (dueAt l N) S) w w' := by
  refine vread_any mfn off n w h hv hF hN hl _ (fun w1 hm hP hV => ?_)
  refine (read_out mfn off n w1 hP (fun q => hp (inP_len (pokes_len _ _).symm q))).mono ?_
  rintro e w2 ⟨rfl, rfl⟩
  exact ⟨_, _, rfl, rfl, hm, hP, hV⟩

theorem or16 {b0 b1 : Int} (h0 : 0 ≤ b0 ∧ b0 ≤ 255) (h1 : 0 ≤ b1 ∧ b1 ≤ 255) : Go.bits .or .u16 b0 (b1 * 256) = b0 + 256 * b1 := by
  rw [Go.u16_or b0 (b1 * 256) h0.1 (by omega) (by omega) (by omega), Nat.or_comm, Go.nat_join 8 (b1 * 256).toNat b0.toNat (by omega) (by omega)]
  omega

def word2 (l : List Int) : Int := l.getD 0 0 + 256 * l.getD 1 0

theorem vword_ok {base top B F : Nat} {k : ViK} {S : List Fr} {N : Int} {l : List Pk} (mfn off : Int) (f : Fr) (w : World) (h : PhM w B F S) (hv : ViM w base top k B N l) (hF : F < base) (hN : 0 ≤ N ∧ N < 4611686018427387904) (hl : l.length ≤ 140737488355328)
    (hp : InP S mfn off 2) (hf : (pokes (dueAt l N) S)[mfn.toNat]? = some f) :
    Calls Try.prog 40 #[.pointer (some ⟨k.V, 0, none⟩), .int .i64 mfn, .int .i64 off] w fun e w' => e = .returned (.tuple #[.int .u16 (word2 ((f.bytes.drop off.toNat).take 2)), .int .i64 0]) ∧ VOut base top B F k (N + 1) l (pokes (dueAt l N) S) w w' := by
  have hfo : f.ok := hv.okS h.ok N f (List.mem_of_getElem? hf)
  obtain ⟨b0, b1, hb, r0, r1⟩ : ∃ b0 b1 : Int, (f.bytes.drop off.toNat).take 2 = [b0, b1] ∧ (0 ≤ b0 ∧ b0 ≤ 255) ∧ (0 ≤ b1 ∧ b1 ≤ 255) := by
    have hp4 := hp.2
    have hln : ((f.bytes.drop off.toNat).take 2).length = 2 := by rw [List.length_take, List.length_drop, hfo.1]; omega
    have hm : ∀ x ∈ (f.bytes.drop off.toNat).take 2, 0 ≤ x ∧ x ≤ 255 := fun x hx => hfo.2 x (List.mem_of_mem_drop (List.mem_of_mem_take hx))
    match hq : (f.bytes.drop off.toNat).take 2, hln with
    | [b0, b1], _ =>
      rw [hq] at hm
      exact ⟨b0, b1, rfl, hm b0 (by simp), hm b1 (by simp)⟩
  have HR := Lib.hid (vread_ok mfn off 2 f w h hv hF hN hl hp hf)
  rw [show (2 : Int).toNat = 2 from rfl, hb] at HR
  rw [hb]
  clear hb hfo
  go_enter Try.func40, Try.ntmps40
  go_wp2_with fail
  refine HR.out.mono ?_
  rintro e w2 ⟨g, rfl, _, hg2, hgc, ho⟩
  have x0 := row_cell (l := [Value.int .u8 b0, .int .u8 b1]) hgc 0
  have x1 := row_cell (l := [Value.int .u8 b0, .int .u8 b1]) hgc 1
  simp only [List.getElem?_cons_zero, List.getElem?_cons_succ] at x0 x1
  have HO := Lib.hid ho
  have HE := Lib.hid (or16 r0 r1)
  clear hgc ho hf hp h hv HR
  go_wp2_with fail
  go_quiet (fail)
  go_wp2
  go_ret2
  refine ⟨by rw [show word2 [b0, b1] = b0 + 256 * b1 from rfl, ← HE.out]; rfl, HO.out.mod.drewN _, HO.out.p.kept ((Mod.refl No _).drewN _) (fun q => q) (fun q => q), HO.out.v.no ((Mod.refl No _).drewN _)⟩

theorem vword_bad {base top B F : Nat} {k : ViK} {S : List Fr} {N : Int} {l : List Pk} (mfn off : Int) (w : World) (h : PhM w B F S) (hv : ViM w base top k B N l) (hF : F < base) (hN : 0 ≤ N ∧ N < 4611686018427387904) (hl : l.length ≤ 140737488355328)
    (hp : ¬ InP S mfn off 2) :
    Calls Try.prog 40 #[.pointer (some ⟨k.V, 0, none⟩), .int .i64 mfn, .int .i64 off] w fun e w' => e = .returned (.tuple #[.int .u16 0, .int .i64 1]) ∧ VOut base top B F k (N + 1) l (pokes (dueAt l N) S) w w' := by
  have HR := Lib.hid (vread_bad mfn off 2 w h hv hF hN hl hp)
  clear hp h hv
  go_enter Try.func40, Try.ntmps40
  go_wp2_with fail
  refine HR.out.mono ?_
  rintro e w2 ⟨rfl, ho⟩
  have HO := Lib.hid ho
  clear ho
  go_wp2
  go_ret2
  exact ⟨rfl, HO.out⟩

/-- A write through a view is the machine's. -/
theorem vwrite_any {V B : Nat} (mfn off : Int) (q : Option Addr) (n c : Nat) (w : World) (h0 : w.cell? ⟨V, 0, none⟩ = some (.pointer (some ⟨B, 0, none⟩))) {x : Int} {Q : World → Prop}
    (h : Calls Try.prog 22 #[.pointer (some ⟨B, 0, none⟩), .int .i64 mfn, .int .i64 off, .slice q n c] w fun e w' => e = .returned (.int .i64 x) ∧ Q w') :
    Calls Try.prog 85 #[.pointer (some ⟨V, 0, none⟩), .int .i64 mfn, .int .i64 off, .slice q n c] w fun e w' => e = .returned (.int .i64 x) ∧ Q w' := by
  have HW := Lib.hid h
  clear h
  go_enter Try.func85, Try.ntmps85
  go_wp2_with (go_at_call 80; refine (vnone_made V B _ h0).mono ?_; rintro e w' ⟨rfl, rfl⟩)
  refine HW.out.mono ?_
  rintro e w2 ⟨rfl, hq⟩
  have HQ := Lib.hid hq
  clear hq
  go_wp2
  go_ret
  exact ⟨rfl, HQ.out⟩

end Go.Proofs.Ythfkpbfapkpnfab
