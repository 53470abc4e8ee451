/- The ring's back end over a view: Look, Take, Answer. -/
import Derived.Test.YtpfjpfepbhfmeaaRingBk
import Derived.Deep.RegionHeld3
namespace Go.Proofs.Ytpfjpfepbhfmeaa
open Go.RowKit
set_option maxRecDepth 100000

/-- A write, plainly: what stands behind it, its answer. -/
def wrIn (S : List Fr) (i off : Int) (n : Nat) : Prop := (0 ≤ i ∧ i < S.length) ∧ 0 ≤ off ∧ off + n ≤ 256
instance (S : List Fr) (i off : Int) (n : Nat) : Decidable (wrIn S i off n) := by unfold wrIn; infer_instance
def wrR (S : List Fr) (i off : Int) (bs : List Int) : List Fr := if wrIn S i off bs.length then (match S[i.toNat]? with | some f => if f.owner = -1 then S else S.set i.toNat { f with bytes := splice f.bytes off.toNat bs } | none => S) else S
def wrE (S : List Fr) (i off : Int) (n : Nat) : Int := if wrIn S i off n then (match S[i.toNat]? with | some f => if f.owner = -1 then 11 else 0 | none => 0) else 1
theorem wrIn_p {S : List Fr} {i off : Int} {n : Nat} : wrIn S i off n ↔ InP S i off n := ⟨fun h => ⟨h.1, h.2.1, by omega, h.2.2⟩, fun h => ⟨h.1, h.2.1, h.2.2.2⟩⟩
theorem wrR_len (S : List Fr) (i off : Int) (bs : List Int) : (wrR S i off bs).length = S.length := by
  unfold wrR; split
  · split
    · split <;> simp
    · rfl
  · rfl
theorem wrR_out {S : List Fr} {i off : Int} {bs : List Int} (h : ¬ InP S i off bs.length) : wrR S i off bs = S ∧ wrE S i off bs.length = 1 := by
  unfold wrR wrE
  rw [if_neg (fun q => h (wrIn_p.1 q)), if_neg (fun q => h (wrIn_p.1 q))]
  exact ⟨rfl, rfl⟩
theorem wrR_free {S : List Fr} {i off : Int} {bs : List Int} {f : Fr} (h : InP S i off bs.length) (hf : S[i.toNat]? = some f) (ho : f.owner = -1) : wrR S i off bs = S ∧ wrE S i off bs.length = 11 := by
  unfold wrR wrE
  rw [if_pos (wrIn_p.2 h), if_pos (wrIn_p.2 h), hf]
  exact ⟨if_pos ho, if_pos ho⟩
theorem wrR_in {S : List Fr} {i off : Int} {bs : List Int} {f : Fr} (h : InP S i off bs.length) (hf : S[i.toNat]? = some f) (ho : f.owner ≠ -1) : wrR S i off bs = S.set i.toNat { f with bytes := splice f.bytes off.toNat bs } ∧ wrE S i off bs.length = 0 := by
  unfold wrR wrE
  rw [if_pos (wrIn_p.2 h), if_pos (wrIn_p.2 h), hf]
  exact ⟨if_neg ho, if_neg ho⟩

theorem pwrite_any {B F : Nat} {S : List Fr} (i off : Int) (p : Option Addr) (c : Nat) (bs : List Int) (w : World) (h : PhM w B F S) (hs : Src w p bs) :
    Calls Try.prog 18 #[.pointer (some ⟨B, 0, none⟩), .int .i64 i, .int .i64 off, .slice p bs.length c] w fun e w' => e = .returned (.int .i64 (wrE S i off bs.length)) ∧ Mod (One F) w w' ∧ PhM w' B F (wrR S i off bs) := by
  by_cases hp : InP S i off bs.length
  · obtain ⟨f, hf⟩ : ∃ f, S[i.toNat]? = some f := ⟨_, List.getElem?_eq_getElem (by have := hp.1; omega)⟩
    by_cases ho : f.owner = -1
    · rw [(wrR_free hp hf ho).1, (wrR_free hp hf ho).2]
      refine (write_free i off p bs.length c f w h hp hf ho).mono ?_
      rintro e w' ⟨rfl, rfl⟩
      exact ⟨rfl, Mod.refl _ _, h⟩
    · rw [(wrR_in hp hf ho).1, (wrR_in hp hf ho).2]
      exact write_in i off p bs.length c bs f w h rfl hp hf ho hs
  · rw [(wrR_out hp).1, (wrR_out hp).2]
    refine (write_out i off p bs.length c w h hp).mono ?_
    rintro e w' ⟨rfl, rfl⟩
    exact ⟨rfl, Mod.refl _ _, h⟩

/-- The code's machine, a view of it, a back end. -/
structure CV (B F b base top : Nat) (vk : ViK) (N : Int) (l : List Pk) (S : List Fr) (k : Bk) (w : World) : Prop where
  p : PhM w B F S
  v : ViM w base top vk B N l
  bk : BkM w b k
  ok : k.ok
  sep : F < base ∧ (b < base ∨ top ≤ b)
def P3 (F : Nat) (vk : ViK) (b : Nat) : Nat → Prop := fun i => i = F ∨ i = vk.V ∨ i = b

theorem CV.neb {B F b base top : Nat} {vk : ViK} {N : Int} {l : List Pk} {S : List Fr} {k : Bk} {w : World} (h : CV B F b base top vk N l S k w) : b ≠ F ∧ b ≠ B ∧ b ≠ vk.V ∧ F ≠ vk.V ∧ B ≠ vk.V := by
  have h1 := h.v.d.rng
  have h2 := h.sep
  exact ⟨(h.bk.neF h.p).1, (h.bk.neF h.p).2, by omega, by omega, h.p.neV h.v.head⟩
theorem CV.no {B F b base top : Nat} {vk : ViK} {N : Int} {l : List Pk} {S : List Fr} {k : Bk} {w w' : World} (h : CV B F b base top vk N l S k w) (hm : Mod No w w') : CV B F b base top vk N l S k w' :=
  ⟨h.p.kept hm (fun q => q) (fun q => q), h.v.no hm, h.bk.no hm, h.ok, h.sep⟩
theorem CV.vout {B F b base top : Nat} {vk : ViK} {N N' : Int} {l : List Pk} {S S' : List Fr} {k : Bk} {w w' : World} (h : CV B F b base top vk N l S k w) (o : VOut base top B F vk N' l S' w w') : CV B F b base top vk N' l S' k w' ∧ Mod (P3 F vk b) w w' := by
  obtain ⟨n1, n2, n3, n4, n5⟩ := h.neb
  exact ⟨⟨o.p, o.v, h.bk.kept o.mod (fun q => q.elim n1 n3), h.ok, h.sep⟩, o.mod.mono (fun i _ q => q.elim .inl (fun q => .inr (.inl q)))⟩
theorem CV.set {B F b base top : Nat} {vk : ViK} {N : Int} {l : List Pk} {S : List Fr} {k k' : Bk} {w : World} (h : CV B F b base top vk N l S k w) (j : Nat) (v : Value) (hk : BkM (w.setCell ⟨b, j, none⟩ v) b k') (ok : k'.ok) :
    CV B F b base top vk N l S k' (w.setCell ⟨b, j, none⟩ v) ∧ Mod (P3 F vk b) w (w.setCell ⟨b, j, none⟩ v) := by
  obtain ⟨n1, n2, n3, n4, n5⟩ := h.neb
  have hm : Mod (One b) w (w.setCell ⟨b, j, none⟩ v) := (Mod.refl _ w).set1 j v
  exact ⟨⟨h.p.kept hm (fun q => n2 q.symm) (fun q => n1 q.symm), h.v.kept hm (fun i hi ht (q : i = b) => by have := h.sep; omega), hk, ok, h.sep⟩, hm.mono (fun i _ (q : i = b) => .inr (.inr q))⟩
theorem CV.wrote {B F b base top : Nat} {vk : ViK} {N : Int} {l : List Pk} {S S' : List Fr} {k : Bk} {w w' : World} (h : CV B F b base top vk N l S k w) (hm : Mod (One F) w w') (hp : PhM w' B F S') : CV B F b base top vk N l S' k w' ∧ Mod (P3 F vk b) w w' := by
  obtain ⟨n1, n2, n3, n4, n5⟩ := h.neb
  exact ⟨⟨hp, h.v.kept hm (fun i hi _ (q : i = F) => by have := h.sep; omega), h.bk.kept hm n1, h.ok, h.sep⟩, hm.mono (fun i _ (q : i = F) => .inl q)⟩

theorem word2_range {f : Fr} (hf : f.ok) : 0 ≤ word2 ((f.bytes.drop 0).take 2) ∧ word2 ((f.bytes.drop 0).take 2) ≤ 65535 := by
  obtain ⟨b0, b1, hb, r0, r1⟩ : ∃ b0 b1 : Int, (f.bytes.drop 0).take 2 = [b0, b1] ∧ (0 ≤ b0 ∧ b0 ≤ 255) ∧ (0 ≤ b1 ∧ b1 ≤ 255) := by
    have hln : ((f.bytes.drop 0).take 2).length = 2 := by rw [List.length_take, List.length_drop, hf.1]; omega
    have hm : ∀ x ∈ (f.bytes.drop 0).take 2, 0 ≤ x ∧ x ≤ 255 := fun x hx => hf.2 x (List.mem_of_mem_drop (List.mem_of_mem_take hx))
    match hq : (f.bytes.drop 0).take 2, hln with
    | [b0, b1], _ => rw [hq] at hm; exact ⟨b0, b1, rfl, hm b0 (by simp), hm b1 (by simp)⟩
  rw [hb]
  show 0 ≤ b0 + 256 * b1 ∧ b0 + 256 * b1 ≤ 65535
  omega

/-- Look, plainly. -/
def Bk.look (k : Bk) (S : List Fr) : (Int × Bool × Int) × Bk :=
  match (if 0 ≤ k.mfn then S[k.mfn.toNat]? else none) with
  | some f => (((aheadR (word2 ((f.bytes.drop 0).take 2)) k.inn).1, (aheadR (word2 ((f.bytes.drop 0).take 2)) k.inn).2, 0), { k with seen := (k.inn + (aheadR (word2 ((f.bytes.drop 0).take 2)) k.inn).1) % 65536 })
  | none => ((0, false, 1), k)
theorem look_in {k : Bk} {S : List Fr} {f : Fr} (h : 0 ≤ k.mfn) (hf : S[k.mfn.toNat]? = some f) : k.look S = (((aheadR (word2 ((f.bytes.drop 0).take 2)) k.inn).1, (aheadR (word2 ((f.bytes.drop 0).take 2)) k.inn).2, 0), { k with seen := (k.inn + (aheadR (word2 ((f.bytes.drop 0).take 2)) k.inn).1) % 65536 }) := by
  unfold Bk.look; rw [if_pos h, hf]
theorem look_out {k : Bk} {S : List Fr} (h : k.mfn < 0 ∨ (S.length : Int) ≤ k.mfn) : k.look S = ((0, false, 1), k) := by
  unfold Bk.look
  have : (if 0 ≤ k.mfn then S[k.mfn.toNat]? else none) = none := by
    split
    · exact List.getElem?_eq_none (by omega)
    · rfl
  rw [this]
theorem look_ok {k : Bk} {S : List Fr} (ho : k.ok) : (k.look S).2.ok := by
  unfold Bk.look
  split
  · exact ⟨ho.i, ho.o, by simp only; omega⟩
  · exact ho

set_option maxHeartbeats 4000000 in
theorem look_any {B F b base top : Nat} {vk : ViK} {N : Int} {l : List Pk} {S : List Fr} {k : Bk} (w : World) (h : CV B F b base top vk N l S k w) (hN : 0 ≤ N ∧ N < 4611686018427387904) (hl : l.length ≤ 140737488355328) :
    Calls Try.prog 49 #[.pointer (some ⟨b, 0, none⟩), .pointer (some ⟨vk.V, 0, none⟩)] w fun e w' => e = .returned (.tuple #[.int .i64 (k.look (pokes (dueAt l N) S)).1.1, .bool (k.look (pokes (dueAt l N) S)).1.2.1, .int .i64 (k.look (pokes (dueAt l N) S)).1.2.2]) ∧
      CV B F b base top vk (N + 1) l (pokes (dueAt l N) S) (k.look (pokes (dueAt l N) S)).2 w' ∧ Mod (P3 F vk b) w w' := by
  have HB := Lib.hid (bnone_made w h.bk)
  have HU := Lib.hid (unmade_made w h.v)
  have HC := Lib.hid h
  obtain ⟨c0, c1, c2, c3, c4⟩ := h.bk.c
  have hi := h.ok.i
  by_cases hr : 0 ≤ k.mfn ∧ k.mfn < S.length
  · obtain ⟨f, hf⟩ : ∃ f, (pokes (dueAt l N) S)[k.mfn.toNat]? = some f := ⟨_, List.getElem?_eq_getElem (by rw [pokes_len]; omega)⟩
    have hfo : f.ok := h.v.okS h.p.ok N f (List.mem_of_getElem? hf)
    have hwr := word2_range hfo
    have hlk := look_in hr.1 hf
    have HLO := Lib.hid (look_ok (S := pokes (dueAt l N) S) h.ok)
    rw [hlk] at HLO
    rw [hlk]
    have HW := Lib.hid (vword_ok k.mfn 0 f w h.p h.v h.sep.1 hN hl ⟨hr, by omega, by omega, by omega⟩ hf)
    rw [show ((0 : Int).toNat) = 0 from rfl] at HW
    generalize word2 ((f.bytes.drop 0).take 2) = x at HW hwr HLO ⊢
    have hra := aheadR_range x k.inn
    have HA := Lib.hid (fun w' => ahead_any x k.inn w')
    generalize aheadR x k.inn = a at hra HA HLO ⊢
    obtain ⟨n, cl⟩ := a
    dsimp only at hra HA HLO ⊢
    obtain ⟨y, hy⟩ : ∃ y, y = (k.inn + n) % 65536 := ⟨_, rfl⟩
    have hyw : IntKind.u16.wrap (k.inn + n) = y := by rw [hy]; rfl
    rw [← hy] at HLO
    rw [← hy]
    clear h hf hfo hlk hy
    go_enter Try.func49, Try.ntmps49
    go_wp2_with (first
      | (go_at_call 99; refine HB.out.mono ?_; rintro e w' ⟨rfl, rfl⟩)
      | (go_at_call 100; refine HU.out.mono ?_; rintro e w' ⟨rfl, rfl⟩))
    refine HW.out.mono ?_
    rintro e w1 ⟨rfl, ho⟩
    obtain ⟨hc1, hm1⟩ := HC.out.vout ho
    have HC1 := Lib.hid hc1
    have HM1 := Lib.hid hm1
    clear c0 c1 c2 c3 c4 ho hm1
    obtain ⟨c0, c1, c2, c3, c4⟩ := hc1.bk.c
    have f4 := hc1.bk.f 4
    clear hc1
    go_wp2_with (go_at_call 101; refine (HA.out _).mono ?_; rintro e w' ⟨rfl, rfl⟩)
    go_ret3
    obtain ⟨hc2, hm2⟩ := HC1.out.set 4 (.int .u16 y) (HC1.out.bk.setS y) HLO.out
    exact ⟨rfl, hc2, HM1.out.trans hm2⟩
  · have hlk : k.look (pokes (dueAt l N) S) = ((0, false, 1), k) := look_out (by rw [pokes_len]; omega)
    rw [hlk]
    have HW := Lib.hid (vword_bad k.mfn 0 w h.p h.v h.sep.1 hN hl (fun q => hr q.1))
    clear h hlk
    go_enter Try.func49, Try.ntmps49
    go_wp2_with (first
      | (go_at_call 99; refine HB.out.mono ?_; rintro e w' ⟨rfl, rfl⟩)
      | (go_at_call 100; refine HU.out.mono ?_; rintro e w' ⟨rfl, rfl⟩))
    refine HW.out.mono ?_
    rintro e w1 ⟨rfl, ho⟩
    obtain ⟨hc1, hm1⟩ := HC.out.vout ho
    have HC1 := Lib.hid hc1
    have HM1 := Lib.hid hm1
    clear ho hm1 hc1 c0 c1 c2 c3 c4
    go_wp2
    go_ret3
    exact ⟨rfl, HC1.out, HM1.out⟩

end Go.Proofs.Ytpfjpfepbhfmeaa
