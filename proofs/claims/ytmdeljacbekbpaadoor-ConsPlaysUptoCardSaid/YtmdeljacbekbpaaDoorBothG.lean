/- The code's machine and the document's: each call answers the same in both, and leaves the same frames. A row of the document's machine as a text. Both machines in one state. A script's rounds, in both machines. Steps of a machine of the code's and one of the document's, side by side, with what they leave told. -/
import Derived.Test.YtmdeljacbekbpaaDoorRefG
import Derived.Test.YtmdeljacbekbpaaDoorPhysH
import Derived.Deep.RegionHeld3
import Derived.BigQuiet
/- The code's machine and the document's: each call answers the same in both, and leaves the same frames. -/
namespace Go.Proofs.YtmdeljacbekbpaaDoor
open Go.RowKit
set_option maxRecDepth 100000

/-- What is true of each frame under any script of m calls. -/
structure Fr.inv (m : Nat) (f : Fr) : Prop where
  free : f.owner = -1 → f = freeFr
  own : -2 ≤ f.owner ∧ f.owner < 8
  type : 0 ≤ f.type ∧ f.type ≤ 3
  count : 0 ≤ f.count ∧ f.count ≤ f.total ∧ f.total ≤ m
  zero : f.count = 0 ↔ f.type = 0
def invS (m : Nat) (S : List Fr) : Prop := ∀ f ∈ S, f.inv m

theorem Fr.inv.mono {m n : Nat} {f : Fr} (h : f.inv m) (hmn : m ≤ n) : f.inv n := ⟨h.free, h.own, h.type, ⟨h.count.1, h.count.2.1, by have := h.count.2.2; omega⟩, h.zero⟩
theorem invS.mono {m n : Nat} {S : List Fr} (h : invS m S) (hmn : m ≤ n) : invS n S := fun f hf => (h f hf).mono hmn
theorem invS.set {m : Nat} {S : List Fr} (h : invS m S) (i : Nat) {f : Fr} (hf : f.inv m) : invS m (S.set i f) := by
  intro g hg
  rcases List.mem_or_eq_of_mem_set hg with q | q
  · exact h g q
  · exact q ▸ hf
theorem inv_free (m : Nat) : freeFr.inv m := ⟨fun _ => rfl, by simp [freeFr], by simp [freeFr], by simp [freeFr], by simp [freeFr]⟩
theorem invS_new (m n : Nat) : invS m (List.replicate n freeFr) := fun f hf => by rw [(List.mem_replicate.1 hf).2]; exact inv_free m

/-- What a call of the code's machine leaves. -/
def POut (B F : Nat) (v : Value) (S' : List Fr) (w : World) (e : Ending) (w' : World) : Prop := e = .returned v ∧ Mod (One F) w w' ∧ PhM w' B F S'
/-- What a call of the document's leaves. -/
def ROut (K : RfK) (v : Value) (S' : List Fr) (w : World) (e : Ending) (w' : World) : Prop := ∃ K', e = .returned v ∧ Mod K.inn w w' ∧ K.grew K' w.heap.size ∧ RfM w' K' S'

theorem POut.same {B F : Nat} {S : List Fr} {v : Value} {w : World} {e : Ending} {w' : World} (hP : PhM w B F S) (h : e = .returned v ∧ w = w') : POut B F v S w e w' := by
  obtain ⟨rfl, rfl⟩ := h; exact ⟨rfl, Mod.refl _ _, hP⟩
theorem POut.no {B F : Nat} {S : List Fr} {v : Value} {w : World} {e : Ending} {w' : World} (hP : PhM w B F S) (h : e = .returned v ∧ Mod No w w') : POut B F v S w e w' := by
  obtain ⟨rfl, h⟩ := h; exact ⟨rfl, Mod.of_no h, hP.kept h (fun q => q) (fun q => q)⟩
theorem ROut.same {K : RfK} {S : List Fr} {v : Value} {w : World} {e : Ending} {w' : World} (hR : RfM w K S) (h : e = .returned v ∧ w = w') : ROut K v S w e w' := by
  obtain ⟨rfl, rfl⟩ := h; exact ⟨K, rfl, Mod.refl _ _, K.grew_refl _, hR⟩
theorem ROut.no {K : RfK} {S : List Fr} {v : Value} {w : World} {e : Ending} {w' : World} (hR : RfM w K S) (h : e = .returned v ∧ Mod No w w') : ROut K v S w e w' := by
  obtain ⟨rfl, h⟩ := h; exact ⟨K, rfl, Mod.of_no h, K.grew_refl _, hR.keptNo h⟩
theorem ROut.inn {K : RfK} {S' : List Fr} {v : Value} {w : World} {e : Ending} {w' : World} (h : e = .returned v ∧ Mod K.inn w w' ∧ RfM w' K S') : ROut K v S' w e w' := ⟨K, h.1, h.2.1, K.grew_refl _, h.2.2⟩

theorem idxs_owns (S : List Fr) (o : Int) (n : Nat) (x : Int) (h : x ∈ idxs S o n) : ∃ k : Nat, x = k ∧ k < n ∧ ownsAt S o k = true := by
  unfold idxs at h
  obtain ⟨k, hk, rfl⟩ := List.mem_map.1 h
  obtain ⟨h1, h2⟩ := List.mem_filter.1 hk
  exact ⟨k, rfl, List.mem_range.1 h1, h2⟩

/-- Alloc. -/
theorem both_alloc (m : Nat) (S : List Fr) (o : Int) (hI : invS m S) : ∃ (x r : Int) (S' : List Fr), S'.length = S.length ∧ invS m S' ∧
    (∀ w B F, PhM w B F S → Calls Tryd.prog 33 #[.pointer (some ⟨B, 0, none⟩), .int .i64 o] w (POut B F (.tuple #[.int .i64 x, .int .i64 r]) S' w)) ∧
    (∀ w K, RfM w K S → Calls Tryd.prog 34 #[.pointer (some ⟨K.R, 0, none⟩), .int .i64 o] w (ROut K (.tuple #[.int .i64 x, .int .i64 r]) S' w)) := by
  by_cases ho : (0 ≤ o ∧ o < 8) ∨ o = -2
  · cases hk : idxs S (-1) S.length with
    | nil =>
      exact ⟨0, 10, S, rfl, hI, fun w B F h => (alloc_full o w h ho hk).mono fun e w' q => POut.no h q, fun w K h => (ralloc_full o w h ho hk).mono fun e w' q => ROut.no h q⟩
    | cons x r =>
      obtain ⟨k, rfl, hkn, hown⟩ := idxs_owns S (-1) S.length x (by rw [hk]; simp)
      have hf : S[k]? = some S[k] := List.getElem?_eq_getElem hkn
      have hfo : S[k].owner = -1 := by simpa [ownsAt, hf] using hown
      have hff := (hI S[k] (List.getElem_mem hkn)).free hfo
      refine ⟨k, 0, S.set k { S[k] with owner := o }, by simp, hI.set k ?_, fun w B F h => alloc_some o w h ho hk hf, fun w K h => (ralloc_some o w h ho hk hf).mono fun e w' q => ROut.inn q⟩
      rw [hff]
      exact ⟨fun q => by simp only at q; omega, by simp only; omega, by simp [freeFr], by simp [freeFr], by simp [freeFr]⟩
  · have hd : (o < 0 ∨ 8 ≤ o) ∧ o ≠ -2 := by omega
    exact ⟨0, 1, S, rfl, hI, fun w B F h => (alloc_arg o w h hd).mono fun e w' q => POut.no h q, fun w K h => (ralloc_arg o w hd).mono fun e w' q => ROut.same h q⟩

theorem rest_zero {f : Fr} (h : f.rest = 0) : f.owner ≠ -1 ∧ f.total = 0 := by
  unfold Fr.rest at h
  split at h
  · omega
  · split at h
    · exact ⟨by assumption, by assumption⟩
    · omega

theorem inv_got {m : Nat} {f : Fr} {o k : Int} (h : f.inv m) (hk0 : 0 ≤ k) (hk1 : k ≤ 3) (he : f.getErr o k = 0) : (f.got k).inv (m + 1) := by
  obtain ⟨h1, h2, h3⟩ := getErr_zero he
  have hc := h.count
  have hz := h.zero
  by_cases hk : k = 0
  · have e : f.got k = { f with total := f.total + 1 } := by simp [Fr.got, hk]
    rw [e]
    exact ⟨fun q => absurd q h1, h.own, h.type, ⟨hc.1, by simp only; omega, by simp only; omega⟩, hz⟩
  · have e : f.got k = { f with total := f.total + 1, type := k, count := f.count + 1 } := by simp [Fr.got, hk]
    rw [e]
    refine ⟨fun q => absurd q h1, h.own, ⟨hk0, hk1⟩, ⟨by simp only; omega, by simp only; omega, by simp only; omega⟩, ?_⟩
    simp only
    constructor
    · intro q; omega
    · intro q; exact absurd q hk

theorem inv_put {m : Nat} {f : Fr} {k : Int} (h : f.inv m) (he : f.putErr k = 0) : (f.put k).inv m := by
  have hpz := putErr_zero he
  have hc := h.count
  have hz := h.zero
  by_cases hk : k = 0
  · rw [if_pos hk] at hpz
    have e : f.put k = { f with total := f.total - 1, type := if f.count = 0 then 0 else f.type } := by simp [Fr.put, hk]
    rw [e]
    have hty : (if f.count = 0 then 0 else f.type) = f.type := by
      split
      · rename_i q; exact (hz.1 q).symm
      · rfl
    rw [hty]
    refine ⟨fun q => ?_, h.own, h.type, ⟨hc.1, by simp only; omega, by simp only; omega⟩, hz⟩
    have := h.free q
    exfalso
    rw [this] at hpz
    exact hpz rfl
  · rw [if_neg hk] at hpz
    have e : f.put k = { f with total := f.total - 1, count := f.count - 1, type := if f.count - 1 = 0 then 0 else f.type } := by simp [Fr.put, hk]
    rw [e]
    have hcp : f.count ≠ 0 := fun q => hk (by rw [← hpz]; exact hz.1 q)
    refine ⟨fun q => ?_, h.own, ?_, ⟨by simp only; omega, by simp only; omega, by simp only; omega⟩, ?_⟩
    · have := h.free q
      exfalso
      apply hcp; rw [this]; rfl
    · simp only
      split
      · omega
      · exact h.type
    · simp only
      split
      · rename_i q; exact ⟨fun _ => rfl, fun _ => q⟩
      · rename_i q
        exact ⟨fun r => absurd r q, fun r => absurd (hz.2 r) hcp⟩

theorem both_write (m : Nat) (S : List Fr) (i off : Int) (bs : List Int) (hr : ∀ x ∈ bs, 0 ≤ x ∧ x ≤ 255) (hI : invS m S) : ∃ (r : Int) (S' : List Fr), S'.length = S.length ∧ invS m S' ∧
    (∀ w B F p c, PhM w B F S → Src w p bs → Calls Tryd.prog 17 #[.pointer (some ⟨B, 0, none⟩), .int .i64 i, .int .i64 off, .slice p bs.length c] w (POut B F (.int .i64 r) S' w)) ∧
    (∀ w K p c, RfM w K S → (0 < bs.length → ∃ b o, p = some ⟨b, o, none⟩ ∧ ¬ K.inn b ∧ bs.length ≤ c ∧ ∀ j x, bs[j]? = some x → w.cell? ⟨b, o + j, none⟩ = some (.int .u8 x)) →
      Calls Tryd.prog 51 #[.pointer (some ⟨K.R, 0, none⟩), .int .i64 i, .int .i64 off, .slice p bs.length c] w (ROut K (.int .i64 r) S' w)) := by
  by_cases hp : InP S i off bs.length
  · have hil : i.toNat < S.length := by have := hp.1; omega
    have hf : S[i.toNat]? = some S[i.toNat] := List.getElem?_eq_getElem hil
    have hv := hI S[i.toNat] (List.getElem_mem hil)
    generalize S[i.toNat] = f at hf hv
    by_cases ho : f.owner = -1
    · exact ⟨11, S, rfl, hI, fun w B F p c h _ => (write_free i off p _ c f w h hp hf ho).mono fun e w' q => POut.same h q, fun w K p c h _ => (rwrite_free i off p _ c f w h hp hf ho).mono fun e w' q => ROut.same h q⟩
    · refine ⟨0, S.set i.toNat { f with bytes := splice f.bytes off.toNat bs }, by simp, hI.set _ ⟨fun q => absurd q ho, hv.own, hv.type, hv.count, hv.zero⟩,
        fun w B F p c h hs => write_in i off p _ c bs f w h rfl hp hf ho hs, fun w K p c h hs => (rwrite_in i off p _ c bs f w h rfl hp hf ho hr hs).mono fun e w' q => ROut.inn q⟩
  · exact ⟨1, S, rfl, hI, fun w B F p c h _ => (write_out i off p _ c w h hp).mono fun e w' q => POut.same h q, fun w K p c h _ => (rwrite_out i off p _ c w h hp).mono fun e w' q => ROut.same h q⟩

end Go.Proofs.YtmdeljacbekbpaaDoor

/- A row of the document's machine as a text. -/
namespace Go.Proofs.YtmdeljacbekbpaaDoor
open Go.RowKit
set_option maxRecDepth 100000

/-- The conversion of a frame's bytes in the document's machine. -/
theorem conv_ref {w : World} {K : RfK} {S : List Fr} (h : RfM w K S) {i b c : Nat} {f : Fr} (hi : S[i]? = some f) (hc : ∀ j x, f.bytes[j]? = some x → w.cell? ⟨b, j, none⟩ = some (.int .u8 x)) (q : Nat) :
    (convert 22 9 (.slice (some ⟨b, 0, none⟩) 256 c)).run Tryd.prog (w.drewN q) = .ok (.string (strOfNums f.bytes)) (w.drewN q) := by
  have hl := (h.ok f (List.mem_of_getElem? hi)).1
  refine run_convert_bytes_arg (w.drewN q) 22 5 Tryd.underlying22 Tryd.underlying5 b 0 256 c f.bytes hl (fun j hj => ?_) 9 Tryd.underlying9
  have hjl : j < f.bytes.length := by omega
  have := hc j f.bytes[j] (List.getElem?_eq_getElem hjl)
  rw [Nat.zero_add, List.getD_eq_getElem?_getD, List.getElem?_eq_getElem hjl]
  exact this

end Go.Proofs.YtmdeljacbekbpaaDoor

/- Both machines in one state. -/
namespace Go.Proofs.YtmdeljacbekbpaaDoor
open Go.RowKit
set_option maxRecDepth 100000

/-- Where bytes lie that a call hands in: apart from both machines. -/
structure Bts (w : World) (F : Nat) (K : RfK) (q : Option Addr) (cap : Nat) (bs : List Int) : Prop where
  range : ∀ x ∈ bs, 0 ≤ x ∧ x ≤ 255
  cap : bs.length ≤ cap
  at_ : 0 < bs.length → ∃ b o, q = some ⟨b, o, none⟩ ∧ b ≠ F ∧ ¬ K.has b ∧ ∀ j x, bs[j]? = some x → w.cell? ⟨b, o + j, none⟩ = some (.int .u8 x)

/-- Both machines in one state. -/
structure Two (w : World) (B F : Nat) (K : RfK) (m : Nat) (S : List Fr) : Prop where
  p : PhM w B F S
  r : RfM w K S
  inv : invS m S

/-- What a call of both leaves. -/
def TOut (B F : Nat) (K : RfK) (m n : Nat) (w w' : World) : Prop := ∃ K' S', S'.length = n ∧ Two w' B F K' m S' ∧ K.grew K' w.heap.size ∧ Mod (fun k => k = F ∨ K.inn k) w w'

/-- The code's machine first. -/
theorem tout_pr {w w0 w1 w2 : World} {B F m : Nat} {K : RfK} {S S' : List Fr} {v1 v2 : Value} {e1 e2 : Ending} (hw : Mod No w w0) (hR : RfM w0 K S) (h1 : POut B F v1 S' w0 e1 w1) (h2 : ROut K v2 S' w1 e2 w2) (hI : invS m S') (hP : PhM w0 B F S) :
    TOut B F K m S'.length w w2 := by
  obtain ⟨_, m1, p1⟩ := h1
  obtain ⟨K', _, m2, g, r2⟩ := h2
  have hne := hR.ne_phys hP
  have hne1 := (hR.kept m1 (fun k hk (e : k = F) => hne.2 (e ▸ hk))).ne_phys p1
  have s0 := hw.size
  have s1 := m1.size
  refine ⟨K', S', rfl, ⟨p1.kept m2 (fun q => hne1.1 (RfK.inn_has q)) (fun q => hne1.2 (RfK.inn_has q)), r2, hI⟩, ⟨g.1, fun k hk => (g.2 k hk).imp id (fun q => by omega)⟩, ?_⟩
  exact ((Mod.of_no hw).trans (m1.mono (fun k _ e => .inl e))).trans (m2.mono (fun k _ e => .inr e))

/-- The document's first. -/
theorem tout_rp {w w0 w1 w2 : World} {B F m : Nat} {K K' : RfK} {S S' : List Fr} {v1 : Value} {e1 : Ending} (hw : Mod No w w0) (m2 : Mod K.inn w0 w1) (g : K.grew K' w0.heap.size) (r2 : RfM w1 K' S') (hp1 : PhM w1 B F S) (h1 : POut B F v1 S' w1 e1 w2) (hI : invS m S') :
    TOut B F K m S'.length w w2 := by
  obtain ⟨_, m1, p1⟩ := h1
  have hne1 := r2.ne_phys hp1
  have s0 := hw.size
  refine ⟨K', S', rfl, ⟨p1, r2.kept m1 (fun k hk (e : k = F) => hne1.2 (e ▸ hk)), hI⟩, ⟨g.1, fun k hk => (g.2 k hk).imp id (fun q => by omega)⟩, ?_⟩
  exact ((Mod.of_no hw).trans (m2.mono (fun k _ e => .inr e))).trans (m1.mono (fun k _ e => .inl e))

theorem src_own {w : World} {n₀ n : Nat} {q : Option Addr} {cap : Nat} {xs : List Int} (h : w.ownsRow n₀ 5 1 (.slice q n cap) n (xs.map (Value.int .u8))) (hr : ∀ x ∈ xs, 0 ≤ x ∧ x ≤ 255) : Src w q xs := by
  refine ⟨hr, fun h0 => ?_⟩
  have hl := h.1
  simp at hl
  rcases h.2 with ⟨e, h2⟩ | ⟨g, cap, cur, e, hg, hrow, hc, hm, hs, ht⟩
  · omega
  · cases e
    refine ⟨_, rfl, fun j x hj => ?_⟩
    exact h.cells (g := g) rfl j (.int .u8 x) (by simp [hj])

/-- Bytes that a call hands in: nil, or apart from both machines. -/
def BtsQ (w : World) (F : Nat) (K : RfK) (q : Option Addr) (cap : Nat) (bs : List Int) : Prop := (q = none ∧ bs = [] ∧ cap = 0) ∨ ∃ ad, q = some ad ∧ Bts w F K q cap bs


end Go.Proofs.YtmdeljacbekbpaaDoor

/- A script's rounds, in both machines. -/
namespace Go.Proofs.YtmdeljacbekbpaaDoor
open Go.RowKit
set_option maxRecDepth 100000

/-- What holds ahead of each round of a script. -/
structure RoundS (w0 : World) (B F n i : Nat) (K : RfK) (S : List Fr) (w : World) : Prop where
  two : Two w B F K i S
  len : S.length = n
  mod : Mod No w0 w
  F : w0.heap.size ≤ F
  K : ∀ k, K.has k → w0.heap.size ≤ k

theorem RoundS.play {w0 w w' : World} {B F n i : Nat} {K : RfK} {S : List Fr} (h : RoundS w0 B F n i K S w) (ht : TOut B F K (i + 1) S.length w w') : ∃ K' S', RoundS w0 B F n (i + 1) K' S' w' ∧ K'.R = K.R := by
  obtain ⟨K', S', hl, h2, hg, hm⟩ := ht
  have hs := h.mod.size
  refine ⟨K', S', ⟨h2, hl.trans h.len, h.mod.step hm ?_, h.F, ?_⟩, hg.1⟩
  · intro k hk q
    rcases q with rfl | q
    · have := h.F; omega
    · have := h.K k (RfK.inn_has q); omega
  · intro k hk
    rcases hg.2 k hk with q | q
    · exact h.K k q
    · omega

end Go.Proofs.YtmdeljacbekbpaaDoor

/- Steps of a machine of the code's and one of the document's, side by side, with what they leave told. -/
namespace Go.Proofs.YtmdeljacbekbpaaDoor
open Go.RowKit
set_option maxRecDepth 100000

theorem RoundS.no {w0 w w' : World} {B F n i : Nat} {K : RfK} {S : List Fr} (h : RoundS w0 B F n i K S w) (hm : Mod No w w') : RoundS w0 B F n i K S w' :=
  ⟨⟨h.two.p.kept hm (fun q => q) (fun q => q), h.two.r.keptNo hm, h.two.inv⟩, h.len, h.mod.trans hm, h.F, h.K⟩

/-- The code's call, then the document's. -/
theorem RoundS.pair {w0 w wa w1 w2 : World} {B F n i j : Nat} {K : RfK} {S S' : List Fr} {v1 v2 : Value} {e1 e2 : Ending} (h : RoundS w0 B F n i K S w) (hw : Mod No w wa) (h1 : POut B F v1 S' wa e1 w1) (h2 : ROut K v2 S' w1 e2 w2) (hI : invS j S') (hl : S'.length = S.length) :
    ∃ K', RoundS w0 B F n j K' S' w2 ∧ K'.R = K.R := by
  obtain ⟨_, m1, p1⟩ := h1
  obtain ⟨K', _, m2, g, r2⟩ := h2
  have hR := h.two.r.keptNo hw
  have hP := h.two.p.kept hw (fun q => q) (fun q => q)
  have hne := hR.ne_phys hP
  have hne1 := (hR.kept m1 (fun k hk (e : k = F) => hne.2 (e ▸ hk))).ne_phys p1
  have s0 := hw.size
  have s1 := m1.size
  have s := h.mod.size
  have hmm : Mod (fun k => k = F ∨ K.inn k) w w2 := ((Mod.of_no hw).trans (m1.mono (fun k _ e => .inl e))).trans (m2.mono (fun k _ e => .inr e))
  refine ⟨K', ⟨⟨p1.kept m2 (fun q => hne1.1 (RfK.inn_has q)) (fun q => hne1.2 (RfK.inn_has q)), r2, hI⟩, hl.trans h.len, h.mod.step hmm ?_, h.F, ?_⟩, g.1⟩
  · intro k hk q
    rcases q with rfl | q
    · have := h.F; omega
    · have := h.K k (RfK.inn_has q); omega
  · intro k hk
    rcases g.2 k hk with q | q
    · exact h.K k q
    · omega

/-- A call of the code's machine alone (the document's stays behind: it is told no more). -/
structure RoundP (w0 : World) (B F n i : Nat) (S : List Fr) (w : World) : Prop where
  p : PhM w B F S
  inv : invS i S
  len : S.length = n
  mod : Mod No w0 w
  F : w0.heap.size ≤ F

theorem RoundS.code {w0 w : World} {B F n i : Nat} {K : RfK} {S : List Fr} (h : RoundS w0 B F n i K S w) : RoundP w0 B F n i S w := ⟨h.two.p, h.two.inv, h.len, h.mod, h.F⟩
theorem RoundP.no {w0 w w' : World} {B F n i : Nat} {S : List Fr} (h : RoundP w0 B F n i S w) (hm : Mod No w w') : RoundP w0 B F n i S w' :=
  ⟨h.p.kept hm (fun q => q) (fun q => q), h.inv, h.len, h.mod.trans hm, h.F⟩
theorem RoundP.call {w0 w w1 : World} {B F n i j : Nat} {S S' : List Fr} {v : Value} {e : Ending} (h : RoundP w0 B F n i S w) (h1 : POut B F v S' w e w1) (hI : invS j S') (hl : S'.length = S.length) : RoundP w0 B F n j S' w1 := by
  refine ⟨h1.2.2, hI, hl.trans h.len, h.mod.step h1.2.1 ?_, h.F⟩
  intro k hk q
  have := h.F
  have : k = F := q
  omega

/-- All frames are the first owner's, one after another. -/
def ownFr : Fr := { freeFr with owner := 0 }
def upTo (N i : Nat) : List Fr := List.replicate i ownFr ++ List.replicate (N - i) freeFr

theorem upTo_len {N i : Nat} (h : i ≤ N) : (upTo N i).length = N := by simp [upTo]; omega
theorem upTo_at {N i : Nat} (h : i < N) : (upTo N i)[i]? = some freeFr := by
  unfold upTo
  rw [List.getElem?_append_right (by simp), List.length_replicate, Nat.sub_self, List.getElem?_replicate, if_pos (show 0 < N - i by omega)]
theorem upTo_set {N i : Nat} (h : i < N) : (upTo N i).set i { freeFr with owner := 0 } = upTo N (i + 1) := by
  unfold upTo
  rw [List.set_append_right _ _ (by simp), List.length_replicate, Nat.sub_self, show N - i = (N - (i + 1)) + 1 by omega, List.replicate_succ, List.set_cons_zero, List.replicate_succ' (n := i), List.append_assoc]
  rfl
theorem upTo_low {N i k : Nat} (h : k < i) : (upTo N i)[k]? = some ownFr := by
  unfold upTo
  rw [List.getElem?_append_left (by simpa using h)]
  simp [h]

theorem idxs_upTo {N i : Nat} (h : i < N) : ∃ r, idxs (upTo N i) (-1) (upTo N i).length = (i : Int) :: r := by
  have h1 : ∀ k, k ≤ i → idxs (upTo N i) (-1) k = [] := by
    intro k hk
    induction k with
    | zero => rfl
    | succ k ih =>
      rw [idxs_miss (by simp [ownsAt, upTo_low (N := N) (show k < i by omega), ownFr]), ih (by omega)]
  have h2 : idxs (upTo N i) (-1) (i + 1) = [(i : Int)] := by
    rw [idxs_hit (by simp [ownsAt, upTo_at h, freeFr]), h1 i (Nat.le_refl _)]; rfl
  obtain ⟨r, hr⟩ := idxs_pre (upTo N i) (-1) (show i + 1 ≤ (upTo N i).length by rw [upTo_len (by omega)]; omega)
  rw [h2] at hr
  exact ⟨r, hr.symm⟩

theorem inv_own (m : Nat) : ownFr.inv m := ⟨fun q => absurd q (by simp [ownFr]), by simp [ownFr], by simp [ownFr, freeFr], by simp [ownFr, freeFr], by simp [ownFr, freeFr]⟩
theorem invS_upTo (m N i : Nat) : invS m (upTo N i) := by
  intro f hf
  rcases List.mem_append.1 hf with q | q
  · rw [(List.mem_replicate.1 q).2]; exact inv_own m
  · rw [(List.mem_replicate.1 q).2]; exact inv_free m

/-- Alloc(0), in both. -/
theorem upTo_alloc {N i : Nat} (h : i < N) :
    (∀ w B F, PhM w B F (upTo N i) → Calls Tryd.prog 33 #[.pointer (some ⟨B, 0, none⟩), .int .i64 0] w (POut B F (.tuple #[.int .i64 i, .int .i64 0]) (upTo N (i + 1)) w)) ∧
    (∀ w K, RfM w K (upTo N i) → Calls Tryd.prog 34 #[.pointer (some ⟨K.R, 0, none⟩), .int .i64 0] w (ROut K (.tuple #[.int .i64 i, .int .i64 0]) (upTo N (i + 1)) w)) := by
  obtain ⟨r, hr⟩ := idxs_upTo h
  refine ⟨fun w B F hP => ?_, fun w K hR => ?_⟩
  · have := alloc_some 0 w hP (.inl ⟨by omega, by omega⟩) hr (upTo_at h)
    rw [upTo_set h] at this
    exact this
  · have := ralloc_some 0 w hR (.inl ⟨by omega, by omega⟩) hr (upTo_at h)
    rw [upTo_set h] at this
    exact this.mono fun e w' q => ROut.inn q

end Go.Proofs.YtmdeljacbekbpaaDoor

/- Own rows are kept. -/
namespace Go.Proofs.YtmdeljacbekbpaaDoor
open Go.RowKit

theorem own_mod {w w' : World} {Q : Nat → Prop} {n₀ : Nat} {e : TypeId} {size : Nat} {v : Value} {k : Nat} {xs : List Value} (h : w.ownsRow n₀ e size v k xs) (hm : Mod Q w w') (hq : ∀ i, v.ownBlock = some i → ¬ Q i) : w'.ownsRow n₀ e size v k xs := by
  refine ⟨h.1, ?_⟩
  rcases h.2 with h2 | ⟨g, cap, cur, hv, hg, hr, r⟩
  · exact .inl h2
  · exact .inr ⟨g, cap, cur, hv, hg, hm.blk hr (hq g (by rw [hv]; rfl)), r⟩

end Go.Proofs.YtmdeljacbekbpaaDoor
