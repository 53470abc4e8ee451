/- Steps of a machine of the code's and one of the document's, side by side, with what they leave told. -/
import Derived.Test.YthfkpbfapkpnfabRound
namespace Go.Proofs.Ythfkpbfapkpnfab
open Go.RowKit
set_option maxRecDepth 100000

theorem RoundS.no {w0 w w' : World} {B F n i : Nat} {K : RfK} {S : List Fr} (h : RoundS w0 B F n i K S w) (hm : Mod No w w') : RoundS w0 B F n i K S w' :=
  ⟨⟨h.two.p.kept hm (fun q => q) (fun q => q), h.two.r.keptNo hm, h.two.inv⟩, h.len, h.mod.trans hm, h.F, h.K⟩

/-- The code's call, then the document's. -/
theorem RoundS.pair {w0 w wa w1 w2 : World} {B F n i j : Nat} {K : RfK} {S S' : List Fr} {v1 v2 : Value} {e1 e2 : Ending} (h : RoundS w0 B F n i K S w) (hw : Mod No w wa) (h1 : POut B F v1 S' wa e1 w1) (h2 : ROut K v2 S' w1 e2 w2) (hI : invS j S') (hl : S'.length = S.length) :
    ∃ K', RoundS w0 B F n j K' S' w2 ∧ K'.R = K.R := by
  obtain ⟨_, m1, p1⟩ := h1
  obtain ⟨K', _, m2, g, r2⟩ := h2
  have hR := h.two.r.keptNo hw
  have hP := h.two.p.kept hw (fun q => q) (fun q => q)
  have hne := hR.ne_phys hP
  have hne1 := (hR.kept m1 (fun k hk (e : k = F) => hne.2 (e ▸ hk))).ne_phys p1
  have s0 := hw.size
  have s1 := m1.size
  have s := h.mod.size
  have hmm : Mod (fun k => k = F ∨ K.inn k) w w2 := ((Mod.of_no hw).trans (m1.mono (fun k _ e => .inl e))).trans (m2.mono (fun k _ e => .inr e))
  refine ⟨K', ⟨⟨p1.kept m2 (fun q => hne1.1 (RfK.inn_has q)) (fun q => hne1.2 (RfK.inn_has q)), r2, hI⟩, hl.trans h.len, h.mod.step hmm ?_, h.F, ?_⟩, g.1⟩
  · intro k hk q
    rcases q with rfl | q
    · have := h.F; omega
    · have := h.K k (RfK.inn_has q); omega
  · intro k hk
    rcases g.2 k hk with q | q
    · exact h.K k q
    · omega

/-- A call of the code's machine alone (the document's stays behind: it is told no more). -/
structure RoundP (w0 : World) (B F n i : Nat) (S : List Fr) (w : World) : Prop where
  p : PhM w B F S
  inv : invS i S
  len : S.length = n
  mod : Mod No w0 w
  F : w0.heap.size ≤ F

theorem RoundS.code {w0 w : World} {B F n i : Nat} {K : RfK} {S : List Fr} (h : RoundS w0 B F n i K S w) : RoundP w0 B F n i S w := ⟨h.two.p, h.two.inv, h.len, h.mod, h.F⟩
theorem RoundP.no {w0 w w' : World} {B F n i : Nat} {S : List Fr} (h : RoundP w0 B F n i S w) (hm : Mod No w w') : RoundP w0 B F n i S w' :=
  ⟨h.p.kept hm (fun q => q) (fun q => q), h.inv, h.len, h.mod.trans hm, h.F⟩
theorem RoundP.call {w0 w w1 : World} {B F n i j : Nat} {S S' : List Fr} {v : Value} {e : Ending} (h : RoundP w0 B F n i S w) (h1 : POut B F v S' w e w1) (hI : invS j S') (hl : S'.length = S.length) : RoundP w0 B F n j S' w1 := by
  refine ⟨h1.2.2, hI, hl.trans h.len, h.mod.step h1.2.1 ?_, h.F⟩
  intro k hk q
  have := h.F
  have : k = F := q
  omega

/-- All frames are the first owner's, one after another. -/
def ownFr : Fr := { freeFr with owner := 0 }
def upTo (N i : Nat) : List Fr := List.replicate i ownFr ++ List.replicate (N - i) freeFr

theorem upTo_len {N i : Nat} (h : i ≤ N) : (upTo N i).length = N := by simp [upTo]; omega
theorem upTo_at {N i : Nat} (h : i < N) : (upTo N i)[i]? = some freeFr := by
  unfold upTo
  rw [List.getElem?_append_right (by simp), List.length_replicate, Nat.sub_self, List.getElem?_replicate, if_pos (show 0 < N - i by omega)]
theorem upTo_set {N i : Nat} (h : i < N) : (upTo N i).set i { freeFr with owner := 0 } = upTo N (i + 1) := by
  unfold upTo
  rw [List.set_append_right _ _ (by simp), List.length_replicate, Nat.sub_self, show N - i = (N - (i + 1)) + 1 by omega, List.replicate_succ, List.set_cons_zero, List.replicate_succ' (n := i), List.append_assoc]
  rfl
theorem upTo_low {N i k : Nat} (h : k < i) : (upTo N i)[k]? = some ownFr := by
  unfold upTo
  rw [List.getElem?_append_left (by simpa using h)]
  simp [h]

theorem idxs_upTo {N i : Nat} (h : i < N) : ∃ r, idxs (upTo N i) (-1) (upTo N i).length = (i : Int) :: r := by
  have h1 : ∀ k, k ≤ i → idxs (upTo N i) (-1) k = [] := by
    intro k hk
    induction k with
    | zero => rfl
    | succ k ih =>
      rw [idxs_miss (by simp [ownsAt, upTo_low (N := N) (show k < i by omega), ownFr]), ih (by omega)]
  have h2 : idxs (upTo N i) (-1) (i + 1) = [(i : Int)] := by
    rw [idxs_hit (by simp [ownsAt, upTo_at h, freeFr]), h1 i (Nat.le_refl _)]; rfl
  obtain ⟨r, hr⟩ := idxs_pre (upTo N i) (-1) (show i + 1 ≤ (upTo N i).length by rw [upTo_len (by omega)]; omega)
  rw [h2] at hr
  exact ⟨r, hr.symm⟩

theorem inv_own (m : Nat) : ownFr.inv m := ⟨fun q => absurd q (by simp [ownFr]), by simp [ownFr], by simp [ownFr, freeFr], by simp [ownFr, freeFr], by simp [ownFr, freeFr]⟩
theorem invS_upTo (m N i : Nat) : invS m (upTo N i) := by
  intro f hf
  rcases List.mem_append.1 hf with q | q
  · rw [(List.mem_replicate.1 q).2]; exact inv_own m
  · rw [(List.mem_replicate.1 q).2]; exact inv_free m

/-- Alloc(0), in both. -/
theorem upTo_alloc {N i : Nat} (h : i < N) :
    (∀ w B F, PhM w B F (upTo N i) → Calls Try.prog 15 #[.pointer (some ⟨B, 0, none⟩), .int .i64 0] w (POut B F (.tuple #[.int .i64 i, .int .i64 0]) (upTo N (i + 1)) w)) ∧
    (∀ w K, RfM w K (upTo N i) → Calls Try.prog 32 #[.pointer (some ⟨K.R, 0, none⟩), .int .i64 0] w (ROut K (.tuple #[.int .i64 i, .int .i64 0]) (upTo N (i + 1)) w)) := by
  obtain ⟨r, hr⟩ := idxs_upTo h
  refine ⟨fun w B F hP => ?_, fun w K hR => ?_⟩
  · have := alloc_some 0 w hP (.inl ⟨by omega, by omega⟩) hr (upTo_at h)
    rw [upTo_set h] at this
    exact this
  · have := ralloc_some 0 w hR (.inl ⟨by omega, by omega⟩) hr (upTo_at h)
    rw [upTo_set h] at this
    exact this.mono fun e w' q => ROut.inn q

end Go.Proofs.Ythfkpbfapkpnfab
