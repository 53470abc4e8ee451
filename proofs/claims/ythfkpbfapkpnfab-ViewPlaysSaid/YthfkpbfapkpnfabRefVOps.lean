/- tenementref02.View: Read's two ways, Word. -/
import Derived.Test.YthfkpbfapkpnfabRefVRead
namespace Go.Proofs.Ythfkpbfapkpnfab
open Go.RowKit
set_option maxRecDepth 100000

theorem row_item8 {W : World} {b : Nat} {e : TypeId} {v : Value} {k : Nat} {xs : List Int} (h : W.ownsRow b e 1 v k (xs.map (Value.int .u8))) (j : Nat) (x : Int) (hj : xs[j]? = some x) :
    ∃ g cap, v = .slice (some ⟨g, 0, none⟩) k cap ∧ j < k ∧ k ≤ cap ∧ b ≤ g ∧ W.cell? ⟨g, j, none⟩ = some (.int .u8 x) := by
  have hl := h.1
  simp at hl
  have hjl := (List.getElem?_eq_some_iff.1 hj).1
  rcases h.2 with ⟨rfl, h0⟩ | ⟨g, cap, cur, rfl, hg, hr, hc, _, _, ht⟩
  · omega
  · refine ⟨g, cap, rfl, by omega, hc, hg, ?_⟩
    have := h.cells (g := g) rfl j (.int .u8 x) (by rw [List.getElem?_map, hj]; rfl)
    simpa [Addr.add_lit] using this

structure RVOut (X : Nat) (K : RfK) (q : Option Addr) (cap : Nat) (l : List Pk) (N : Int) (S : List Fr) (w w' : World) : Prop where
  mod : Mod (fun i => K.inn i ∨ i = X) w w'
  r : RfM w' K S
  v : RvM w' X K q cap l N

theorem rvread_ok {K : RfK} {S : List Fr} {X : Nat} {q : Option Addr} {cap : Nat} {l : List Pk} {N : Int} (mfn off n : Int) (f : Fr) (w0 w : World) (hs : PkS w0 q l) (hm0 : Mod No w0 w) (hK : ∀ k, K.has k → w0.heap.size ≤ k)
    (h : RfM w K S) (hx : RvM w X K q cap l N) (hN : 0 ≤ N ∧ N < 4611686018427387904) (hl : l.length ≤ 140737488355328) (hp : InP S mfn off n) (hf : (pokes (dueAt l N) S)[mfn.toNat]? = some f) :
    Calls Try.prog 83 #[.pointer (some ⟨X, 0, none⟩), .int .i64 mfn, .int .i64 off, .int .i64 n] w fun e w' => ∃ g c, e = .returned (.tuple #[.slice g n.toNat c, .int .i64 0]) ∧
      w'.ownsRow w.heap.size 5 1 (.slice g n.toNat c) n.toNat (((f.bytes.drop off.toNat).take n.toNat).map (Value.int .u8)) ∧ RVOut X K q cap l (N + 1) (pokes (dueAt l N) S) w w' := by
  refine rvread_any mfn off n w0 w hs hm0 hK h hx hN hl _ (fun w1 hm hR hX => ?_)
  refine (rread_in mfn off n f w1 hR (inP_len (pokes_len _ _) hp) hf).mono ?_
  rintro e w2 ⟨g, c, rfl, hm2, hown⟩
  exact ⟨_, _, rfl, g, c, rfl, ownsRow_base hown hm.size, hm.trans (Mod.of_no hm2), hR.keptNo hm2, hX.kept hm2 (fun q => q)⟩

theorem rvread_bad {K : RfK} {S : List Fr} {X : Nat} {q : Option Addr} {cap : Nat} {l : List Pk} {N : Int} (mfn off n : Int) (w0 w : World) (hs : PkS w0 q l) (hm0 : Mod No w0 w) (hK : ∀ k, K.has k → w0.heap.size ≤ k)
    (h : RfM w K S) (hx : RvM w X K q cap l N) (hN : 0 ≤ N ∧ N < 4611686018427387904) (hl : l.length ≤ 140737488355328) (hp : ¬ InP S mfn off n) :
    Calls Try.prog 83 #[.pointer (some ⟨X, 0, none⟩), .int .i64 mfn, .int .i64 off, .int .i64 n] w fun e w' => e = .returned (.tuple #[.slice none 0 0, .int .i64 1]) ∧ RVOut X K q cap l (N + 1) (pokes (dueAt l N) S) w w' := by
  refine rvread_any mfn off n w0 w hs hm0 hK h hx hN hl _ (fun w1 hm hR hX => ?_)
  refine (rread_out mfn off n w1 hR (fun q => hp (inP_len (pokes_len _ _).symm q))).mono ?_
  rintro e w2 ⟨rfl, rfl⟩
  exact ⟨_, _, rfl, rfl, hm, hR, hX⟩

theorem RVOut.drew {X : Nat} {K : RfK} {q : Option Addr} {cap : Nat} {l : List Pk} {N : Int} {S : List Fr} {w w' : World} (h : RVOut X K q cap l N S w w') (n : Nat) : RVOut X K q cap l N S w (w'.drewN n) :=
  ⟨h.mod.drewN n, h.r.keptNo ((Mod.refl No _).drewN n), h.v.kept ((Mod.refl No _).drewN n) (fun q => q)⟩

theorem PkS.okS {w0 : World} {q : Option Addr} {l : List Pk} (h : PkS w0 q l) {S : List Fr} (hS : Proofs.Ythfkpbfapkpnfab.okS S) (M : Int) : Proofs.Ythfkpbfapkpnfab.okS (pokes (dueAt l M) S) :=
  okS_pokes _ hS (fun p hp => (h.ok p (List.mem_filter.1 hp).1).b.range)

set_option maxHeartbeats 1600000 in
theorem rvword_ok {K : RfK} {S : List Fr} {X : Nat} {q : Option Addr} {cap : Nat} {l : List Pk} {N : Int} (mfn off : Int) (f : Fr) (w0 w : World) (hs : PkS w0 q l) (hm0 : Mod No w0 w) (hK : ∀ k, K.has k → w0.heap.size ≤ k)
    (h : RfM w K S) (hx : RvM w X K q cap l N) (hN : 0 ≤ N ∧ N < 4611686018427387904) (hl : l.length ≤ 140737488355328) (hp : InP S mfn off 2) (hf : (pokes (dueAt l N) S)[mfn.toNat]? = some f) :
    Calls Try.prog 84 #[.pointer (some ⟨X, 0, none⟩), .int .i64 mfn, .int .i64 off] w fun e w' => e = .returned (.tuple #[.int .u16 (word2 ((f.bytes.drop off.toNat).take 2)), .int .i64 0]) ∧ RVOut X K q cap l (N + 1) (pokes (dueAt l N) S) w w' := by
  have hfo : f.ok := hs.okS h.ok N f (List.mem_of_getElem? hf)
  obtain ⟨b0, b1, hb, r0, r1⟩ : ∃ b0 b1 : Int, (f.bytes.drop off.toNat).take 2 = [b0, b1] ∧ (0 ≤ b0 ∧ b0 ≤ 255) ∧ (0 ≤ b1 ∧ b1 ≤ 255) := by
    have hp4 := hp.2
    have hln : ((f.bytes.drop off.toNat).take 2).length = 2 := by rw [List.length_take, List.length_drop, hfo.1]; omega
    have hm : ∀ x ∈ (f.bytes.drop off.toNat).take 2, 0 ≤ x ∧ x ≤ 255 := fun x hx => hfo.2 x (List.mem_of_mem_drop (List.mem_of_mem_take hx))
    match hq : (f.bytes.drop off.toNat).take 2, hln with
    | [b0, b1], _ =>
      rw [hq] at hm
      exact ⟨b0, b1, rfl, hm b0 (by simp), hm b1 (by simp)⟩
  have HR := Lib.hid (rvread_ok mfn off 2 f w0 w hs hm0 hK h hx hN hl hp hf)
  rw [show (2 : Int).toNat = 2 from rfl, hb] at HR
  rw [hb]
  clear hb hfo hs hm0 h hx hp hf
  go_enter Try.func84, Try.ntmps84
  go_wp2_with fail
  refine HR.out.mono ?_
  rintro e w2 ⟨g, c, rfl, hown, ho⟩
  obtain ⟨g0, cap0, e0, _, hc0, _, y0⟩ := row_item8 hown 0 b0 rfl
  obtain ⟨g1, cap1, e1, _, _, _, y1⟩ := row_item8 hown 1 b1 rfl
  cases e0
  cases e1
  have HO := Lib.hid ho
  clear ho hown HR
  go_wp2_with fail
  go_quiet (fail)
  go_wp2
  go_ret2
  exact ⟨by rw [show word2 [b0, b1] = b0 + 256 * b1 from rfl]; rfl, HO.out.drew _⟩

theorem rvword_bad {K : RfK} {S : List Fr} {X : Nat} {q : Option Addr} {cap : Nat} {l : List Pk} {N : Int} (mfn off : Int) (w0 w : World) (hs : PkS w0 q l) (hm0 : Mod No w0 w) (hK : ∀ k, K.has k → w0.heap.size ≤ k)
    (h : RfM w K S) (hx : RvM w X K q cap l N) (hN : 0 ≤ N ∧ N < 4611686018427387904) (hl : l.length ≤ 140737488355328) (hp : ¬ InP S mfn off 2) :
    Calls Try.prog 84 #[.pointer (some ⟨X, 0, none⟩), .int .i64 mfn, .int .i64 off] w fun e w' => e = .returned (.tuple #[.int .u16 0, .int .i64 1]) ∧ RVOut X K q cap l (N + 1) (pokes (dueAt l N) S) w w' := by
  have HR := Lib.hid (rvread_bad mfn off 2 w0 w hs hm0 hK h hx hN hl hp)
  clear hp h hx hs hm0
  go_enter Try.func84, Try.ntmps84
  go_wp2_with fail
  refine HR.out.mono ?_
  rintro e w2 ⟨rfl, ho⟩
  have HO := Lib.hid ho
  clear ho
  go_wp2
  go_ret2
  exact ⟨rfl, HO.out⟩

end Go.Proofs.Ythfkpbfapkpnfab
