/- The code's machine and the document's: each call answers the same in both, and leaves the same frames. -/
import Derived.Test.YthfkpbfapkpnfabRefRead
import Derived.Test.YthfkpbfapkpnfabRefNew
import Derived.Test.YthfkpbfapkpnfabRefOwn
import Derived.Test.YthfkpbfapkpnfabRefOps2
import Derived.Test.YthfkpbfapkpnfabPhysMore
namespace Go.Proofs.Ythfkpbfapkpnfab
open Go.RowKit
set_option maxRecDepth 100000

/-- What is true of each frame under any script of m calls. -/
structure Fr.inv (m : Nat) (f : Fr) : Prop where
  free : f.owner = -1 → f = freeFr
  own : -2 ≤ f.owner ∧ f.owner < 8
  type : 0 ≤ f.type ∧ f.type ≤ 3
  count : 0 ≤ f.count ∧ f.count ≤ f.total ∧ f.total ≤ m
  zero : f.count = 0 ↔ f.type = 0
def invS (m : Nat) (S : List Fr) : Prop := ∀ f ∈ S, f.inv m

theorem Fr.inv.mono {m n : Nat} {f : Fr} (h : f.inv m) (hmn : m ≤ n) : f.inv n := ⟨h.free, h.own, h.type, ⟨h.count.1, h.count.2.1, by have := h.count.2.2; omega⟩, h.zero⟩
theorem invS.mono {m n : Nat} {S : List Fr} (h : invS m S) (hmn : m ≤ n) : invS n S := fun f hf => (h f hf).mono hmn
theorem invS.set {m : Nat} {S : List Fr} (h : invS m S) (i : Nat) {f : Fr} (hf : f.inv m) : invS m (S.set i f) := by
  intro g hg
  rcases List.mem_or_eq_of_mem_set hg with q | q
  · exact h g q
  · exact q ▸ hf
theorem inv_free (m : Nat) : freeFr.inv m := ⟨fun _ => rfl, by simp [freeFr], by simp [freeFr], by simp [freeFr], by simp [freeFr]⟩
theorem invS_new (m n : Nat) : invS m (List.replicate n freeFr) := fun f hf => by rw [(List.mem_replicate.1 hf).2]; exact inv_free m

/-- What a call of the code's machine leaves. -/
def POut (B F : Nat) (v : Value) (S' : List Fr) (w : World) (e : Ending) (w' : World) : Prop := e = .returned v ∧ Mod (One F) w w' ∧ PhM w' B F S'
/-- What a call of the document's leaves. -/
def ROut (K : RfK) (v : Value) (S' : List Fr) (w : World) (e : Ending) (w' : World) : Prop := ∃ K', e = .returned v ∧ Mod K.inn w w' ∧ K.grew K' w.heap.size ∧ RfM w' K' S'

theorem POut.same {B F : Nat} {S : List Fr} {v : Value} {w : World} {e : Ending} {w' : World} (hP : PhM w B F S) (h : e = .returned v ∧ w = w') : POut B F v S w e w' := by
  obtain ⟨rfl, rfl⟩ := h; exact ⟨rfl, Mod.refl _ _, hP⟩
theorem POut.no {B F : Nat} {S : List Fr} {v : Value} {w : World} {e : Ending} {w' : World} (hP : PhM w B F S) (h : e = .returned v ∧ Mod No w w') : POut B F v S w e w' := by
  obtain ⟨rfl, h⟩ := h; exact ⟨rfl, Mod.of_no h, hP.kept h (fun q => q) (fun q => q)⟩
theorem ROut.same {K : RfK} {S : List Fr} {v : Value} {w : World} {e : Ending} {w' : World} (hR : RfM w K S) (h : e = .returned v ∧ w = w') : ROut K v S w e w' := by
  obtain ⟨rfl, rfl⟩ := h; exact ⟨K, rfl, Mod.refl _ _, K.grew_refl _, hR⟩
theorem ROut.no {K : RfK} {S : List Fr} {v : Value} {w : World} {e : Ending} {w' : World} (hR : RfM w K S) (h : e = .returned v ∧ Mod No w w') : ROut K v S w e w' := by
  obtain ⟨rfl, h⟩ := h; exact ⟨K, rfl, Mod.of_no h, K.grew_refl _, hR.keptNo h⟩
theorem ROut.inn {K : RfK} {S' : List Fr} {v : Value} {w : World} {e : Ending} {w' : World} (h : e = .returned v ∧ Mod K.inn w w' ∧ RfM w' K S') : ROut K v S' w e w' := ⟨K, h.1, h.2.1, K.grew_refl _, h.2.2⟩

theorem idxs_owns (S : List Fr) (o : Int) (n : Nat) (x : Int) (h : x ∈ idxs S o n) : ∃ k : Nat, x = k ∧ k < n ∧ ownsAt S o k = true := by
  unfold idxs at h
  obtain ⟨k, hk, rfl⟩ := List.mem_map.1 h
  obtain ⟨h1, h2⟩ := List.mem_filter.1 hk
  exact ⟨k, rfl, List.mem_range.1 h1, h2⟩

/-- Alloc. -/
theorem both_alloc (m : Nat) (S : List Fr) (o : Int) (hI : invS m S) : ∃ (x r : Int) (S' : List Fr), S'.length = S.length ∧ invS m S' ∧
    (∀ w B F, PhM w B F S → Calls Try.prog 15 #[.pointer (some ⟨B, 0, none⟩), .int .i64 o] w (POut B F (.tuple #[.int .i64 x, .int .i64 r]) S' w)) ∧
    (∀ w K, RfM w K S → Calls Try.prog 32 #[.pointer (some ⟨K.R, 0, none⟩), .int .i64 o] w (ROut K (.tuple #[.int .i64 x, .int .i64 r]) S' w)) := by
  by_cases ho : (0 ≤ o ∧ o < 8) ∨ o = -2
  · cases hk : idxs S (-1) S.length with
    | nil =>
      exact ⟨0, 10, S, rfl, hI, fun w B F h => (alloc_full o w h ho hk).mono fun e w' q => POut.no h q, fun w K h => (ralloc_full o w h ho hk).mono fun e w' q => ROut.no h q⟩
    | cons x r =>
      obtain ⟨k, rfl, hkn, hown⟩ := idxs_owns S (-1) S.length x (by rw [hk]; simp)
      have hf : S[k]? = some S[k] := List.getElem?_eq_getElem hkn
      have hfo : S[k].owner = -1 := by simpa [ownsAt, hf] using hown
      have hff := (hI S[k] (List.getElem_mem hkn)).free hfo
      refine ⟨k, 0, S.set k { S[k] with owner := o }, by simp, hI.set k ?_, fun w B F h => alloc_some o w h ho hk hf, fun w K h => (ralloc_some o w h ho hk hf).mono fun e w' q => ROut.inn q⟩
      rw [hff]
      exact ⟨fun q => by simp only at q; omega, by simp only; omega, by simp [freeFr], by simp [freeFr], by simp [freeFr]⟩
  · have hd : (o < 0 ∨ 8 ≤ o) ∧ o ≠ -2 := by omega
    exact ⟨0, 1, S, rfl, hI, fun w B F h => (alloc_arg o w h hd).mono fun e w' q => POut.no h q, fun w K h => (ralloc_arg o w hd).mono fun e w' q => ROut.same h q⟩

theorem rest_zero {f : Fr} (h : f.rest = 0) : f.owner ≠ -1 ∧ f.total = 0 := by
  unfold Fr.rest at h
  split at h
  · omega
  · split at h
    · exact ⟨by assumption, by assumption⟩
    · omega

theorem both_free (m : Nat) (S : List Fr) (i : Int) (hI : invS m S) : ∃ (r : Int) (S' : List Fr), S'.length = S.length ∧ invS m S' ∧
    (∀ w B F, PhM w B F S → Calls Try.prog 18 #[.pointer (some ⟨B, 0, none⟩), .int .i64 i] w (POut B F (.int .i64 r) S' w)) ∧
    (∀ w K, RfM w K S → Calls Try.prog 70 #[.pointer (some ⟨K.R, 0, none⟩), .int .i64 i] w (ROut K (.int .i64 r) S' w)) := by
  by_cases hi : i < 0 ∨ (S.length : Int) ≤ i
  · exact ⟨1, S, rfl, hI, fun w B F h => (free_out i w h hi).mono fun e w' q => POut.same h q, fun w K h => (rfree_out i w h hi).mono fun e w' q => ROut.same h q⟩
  · have hil : i.toNat < S.length := by omega
    have hf : S[i.toNat]? = some S[i.toNat] := List.getElem?_eq_getElem hil
    have hv := hI S[i.toNat] (List.getElem_mem hil)
    generalize S[i.toNat] = f at hf hv
    by_cases he : f.rest = 0
    · have hz := rest_zero he
      have hc : f.count = 0 := by have := hv.count; omega
      refine ⟨0, S.set i.toNat freeFr, by simp, hI.set _ (inv_free m), fun w B F h => free_ok i f w h (by omega) hf he, fun w K h => (rfree_ok i f w h (by omega) hf ⟨hv.zero.1 hc, hc⟩ he).mono ?_⟩
      rintro e w' ⟨K', rfl, hg, hm, hR⟩
      exact ⟨K', rfl, hm, hg, hR⟩
    · exact ⟨f.rest, S, rfl, hI, fun w B F h => (free_err i f w h (by omega) hf he).mono fun e w' q => POut.same h q, fun w K h => (rfree_err i f w h (by omega) hf he).mono fun e w' q => ROut.same h q⟩

theorem both_give (m : Nat) (S : List Fr) (i n : Int) (hI : invS m S) : ∃ (r : Int) (S' : List Fr), S'.length = S.length ∧ invS m S' ∧
    (∀ w B F, PhM w B F S → Calls Try.prog 19 #[.pointer (some ⟨B, 0, none⟩), .int .i64 i, .int .i64 n] w (POut B F (.int .i64 r) S' w)) ∧
    (∀ w K, RfM w K S → Calls Try.prog 71 #[.pointer (some ⟨K.R, 0, none⟩), .int .i64 i, .int .i64 n] w (ROut K (.int .i64 r) S' w)) := by
  by_cases hi : (i < 0 ∨ (S.length : Int) ≤ i) ∨ (n < 0 ∨ 8 ≤ n)
  · exact ⟨1, S, rfl, hI, fun w B F h => (give_out i n w h hi).mono fun e w' q => POut.same h q, fun w K h => (rgive_out i n w h hi).mono fun e w' q => ROut.same h q⟩
  · have hil : i.toNat < S.length := by omega
    have hf : S[i.toNat]? = some S[i.toNat] := List.getElem?_eq_getElem hil
    have hv := hI S[i.toNat] (List.getElem_mem hil)
    generalize S[i.toNat] = f at hf hv
    by_cases he : f.rest = 0
    · refine ⟨0, S.set i.toNat { f with owner := n }, by simp, hI.set _ ?_, fun w B F h => give_ok i n f w h (by omega) hf (by omega) (by omega) he, fun w K h => (rgive_ok i n f w h (by omega) hf (by omega) (by omega) he).mono fun e w' q => ROut.inn q⟩
      exact ⟨fun q => by simp only at q; omega, by simp only; omega, hv.type, hv.count, hv.zero⟩
    · exact ⟨f.rest, S, rfl, hI, fun w B F h => (give_err i n f w h (by omega) hf (by omega) (by omega) he).mono fun e w' q => POut.same h q, fun w K h => (rgive_err i n f w h (by omega) hf (by omega) (by omega) he).mono fun e w' q => ROut.same h q⟩

theorem inv_got {m : Nat} {f : Fr} {o k : Int} (h : f.inv m) (hk0 : 0 ≤ k) (hk1 : k ≤ 3) (he : f.getErr o k = 0) : (f.got k).inv (m + 1) := by
  obtain ⟨h1, h2, h3⟩ := getErr_zero he
  have hc := h.count
  have hz := h.zero
  by_cases hk : k = 0
  · have e : f.got k = { f with total := f.total + 1 } := by simp [Fr.got, hk]
    rw [e]
    exact ⟨fun q => absurd q h1, h.own, h.type, ⟨hc.1, by simp only; omega, by simp only; omega⟩, hz⟩
  · have e : f.got k = { f with total := f.total + 1, type := k, count := f.count + 1 } := by simp [Fr.got, hk]
    rw [e]
    refine ⟨fun q => absurd q h1, h.own, ⟨hk0, hk1⟩, ⟨by simp only; omega, by simp only; omega, by simp only; omega⟩, ?_⟩
    simp only
    constructor
    · intro q; omega
    · intro q; exact absurd q hk

theorem inv_put {m : Nat} {f : Fr} {k : Int} (h : f.inv m) (he : f.putErr k = 0) : (f.put k).inv m := by
  have hpz := putErr_zero he
  have hc := h.count
  have hz := h.zero
  by_cases hk : k = 0
  · rw [if_pos hk] at hpz
    have e : f.put k = { f with total := f.total - 1, type := if f.count = 0 then 0 else f.type } := by simp [Fr.put, hk]
    rw [e]
    have hty : (if f.count = 0 then 0 else f.type) = f.type := by
      split
      · rename_i q; exact (hz.1 q).symm
      · rfl
    rw [hty]
    refine ⟨fun q => ?_, h.own, h.type, ⟨hc.1, by simp only; omega, by simp only; omega⟩, hz⟩
    have := h.free q
    exfalso
    rw [this] at hpz
    exact hpz rfl
  · rw [if_neg hk] at hpz
    have e : f.put k = { f with total := f.total - 1, count := f.count - 1, type := if f.count - 1 = 0 then 0 else f.type } := by simp [Fr.put, hk]
    rw [e]
    have hcp : f.count ≠ 0 := fun q => hk (by rw [← hpz]; exact hz.1 q)
    refine ⟨fun q => ?_, h.own, ?_, ⟨by simp only; omega, by simp only; omega, by simp only; omega⟩, ?_⟩
    · have := h.free q
      exfalso
      apply hcp; rw [this]; rfl
    · simp only
      split
      · omega
      · exact h.type
    · simp only
      split
      · rename_i q; exact ⟨fun _ => rfl, fun _ => q⟩
      · rename_i q
        exact ⟨fun r => absurd r q, fun r => absurd (hz.2 r) hcp⟩

theorem both_get (m : Nat) (hm : m < 4611686018427387904) (S : List Fr) (i o k : Int) (hI : invS m S) : ∃ (r : Int) (S' : List Fr), S'.length = S.length ∧ invS (m + 1) S' ∧
    (∀ w B F, PhM w B F S → Calls Try.prog 20 #[.pointer (some ⟨B, 0, none⟩), .int .i64 i, .int .i64 o, .int .i64 k] w (POut B F (.int .i64 r) S' w)) ∧
    (∀ w K, RfM w K S → Calls Try.prog 72 #[.pointer (some ⟨K.R, 0, none⟩), .int .i64 i, .int .i64 o, .int .i64 k] w (ROut K (.int .i64 r) S' w)) := by
  have hI1 := hI.mono (Nat.le_succ m)
  by_cases hi : (i < 0 ∨ (S.length : Int) ≤ i) ∨ k < 0 ∨ 3 < k
  · exact ⟨1, S, rfl, hI1, fun w B F h => (get_out i o k w h hi).mono fun e w' q => POut.same h q, fun w K h => (rget_out i o k w h hi).mono fun e w' q => ROut.same h q⟩
  · have hil : i.toNat < S.length := by omega
    have hf : S[i.toNat]? = some S[i.toNat] := List.getElem?_eq_getElem hil
    have hv := hI S[i.toNat] (List.getElem_mem hil)
    generalize S[i.toNat] = f at hf hv
    have hc := hv.count
    by_cases he : f.getErr o k = 0
    · exact ⟨0, S.set i.toNat (f.got k), by simp, hI1.set _ (inv_got hv (by omega) (by omega) he), fun w B F h => get_ok i o k f w h (by omega) hf (by omega) (by omega) he ⟨by omega, by omega⟩ ⟨by omega, by omega⟩,
        fun w K h => (rget_ok i o k f w h (by omega) hf (by omega) (by omega) hv.zero he ⟨by omega, by omega⟩ ⟨by omega, by omega⟩).mono fun e w' q => ROut.inn q⟩
    · exact ⟨f.getErr o k, S, rfl, hI1, fun w B F h => (get_err i o k f w h (by omega) hf (by omega) (by omega) he).mono fun e w' q => POut.same h q, fun w K h => (rget_err i o k f w h (by omega) hf (by omega) (by omega) hv.zero he).mono fun e w' q => ROut.no h q⟩

theorem both_put (m : Nat) (hm : m < 4611686018427387904) (S : List Fr) (i k : Int) (hI : invS m S) : ∃ (r : Int) (S' : List Fr), S'.length = S.length ∧ invS m S' ∧
    (∀ w B F, PhM w B F S → Calls Try.prog 21 #[.pointer (some ⟨B, 0, none⟩), .int .i64 i, .int .i64 k] w (POut B F (.int .i64 r) S' w)) ∧
    (∀ w K, RfM w K S → Calls Try.prog 73 #[.pointer (some ⟨K.R, 0, none⟩), .int .i64 i, .int .i64 k] w (ROut K (.int .i64 r) S' w)) := by
  by_cases hi : (i < 0 ∨ (S.length : Int) ≤ i) ∨ k < 0 ∨ 3 < k
  · exact ⟨1, S, rfl, hI, fun w B F h => (put_out i k w h hi).mono fun e w' q => POut.same h q, fun w K h => (rput_out i k w h hi).mono fun e w' q => ROut.same h q⟩
  · have hil : i.toNat < S.length := by omega
    have hf : S[i.toNat]? = some S[i.toNat] := List.getElem?_eq_getElem hil
    have hv := hI S[i.toNat] (List.getElem_mem hil)
    generalize S[i.toNat] = f at hf hv
    have hc := hv.count
    by_cases he : f.putErr k = 0
    · exact ⟨0, S.set i.toNat (f.put k), by simp, hI.set _ (inv_put hv he), fun w B F h => put_ok i k f w h (by omega) hf (by omega) (by omega) he ⟨by omega, by omega⟩ ⟨by omega, by omega⟩,
        fun w K h => (rput_ok i k f w h (by omega) hf (by omega) (by omega) hv.zero he ⟨by omega, by omega⟩ ⟨by omega, by omega⟩).mono fun e w' q => ROut.inn q⟩
    · exact ⟨14, S, rfl, hI, fun w B F h => (put_err i k f w h (by omega) hf (by omega) (by omega) he).mono fun e w' q => POut.no h ⟨q.1, q.2.1⟩, fun w K h => (rput_err i k f w h (by omega) hf (by omega) (by omega) he).mono fun e w' q => ROut.no h q⟩

theorem both_write (m : Nat) (S : List Fr) (i off : Int) (bs : List Int) (hr : ∀ x ∈ bs, 0 ≤ x ∧ x ≤ 255) (hI : invS m S) : ∃ (r : Int) (S' : List Fr), S'.length = S.length ∧ invS m S' ∧
    (∀ w B F p c, PhM w B F S → Src w p bs → Calls Try.prog 22 #[.pointer (some ⟨B, 0, none⟩), .int .i64 i, .int .i64 off, .slice p bs.length c] w (POut B F (.int .i64 r) S' w)) ∧
    (∀ w K p c, RfM w K S → (0 < bs.length → ∃ b o, p = some ⟨b, o, none⟩ ∧ ¬ K.inn b ∧ bs.length ≤ c ∧ ∀ j x, bs[j]? = some x → w.cell? ⟨b, o + j, none⟩ = some (.int .u8 x)) →
      Calls Try.prog 75 #[.pointer (some ⟨K.R, 0, none⟩), .int .i64 i, .int .i64 off, .slice p bs.length c] w (ROut K (.int .i64 r) S' w)) := by
  by_cases hp : InP S i off bs.length
  · have hil : i.toNat < S.length := by have := hp.1; omega
    have hf : S[i.toNat]? = some S[i.toNat] := List.getElem?_eq_getElem hil
    have hv := hI S[i.toNat] (List.getElem_mem hil)
    generalize S[i.toNat] = f at hf hv
    by_cases ho : f.owner = -1
    · exact ⟨11, S, rfl, hI, fun w B F p c h _ => (write_free i off p _ c f w h hp hf ho).mono fun e w' q => POut.same h q, fun w K p c h _ => (rwrite_free i off p _ c f w h hp hf ho).mono fun e w' q => ROut.same h q⟩
    · refine ⟨0, S.set i.toNat { f with bytes := splice f.bytes off.toNat bs }, by simp, hI.set _ ⟨fun q => absurd q ho, hv.own, hv.type, hv.count, hv.zero⟩,
        fun w B F p c h hs => write_in i off p _ c bs f w h rfl hp hf ho hs, fun w K p c h hs => (rwrite_in i off p _ c bs f w h rfl hp hf ho hr hs).mono fun e w' q => ROut.inn q⟩
  · exact ⟨1, S, rfl, hI, fun w B F p c h _ => (write_out i off p _ c w h hp).mono fun e w' q => POut.same h q, fun w K p c h _ => (rwrite_out i off p _ c w h hp).mono fun e w' q => ROut.same h q⟩

end Go.Proofs.Ythfkpbfapkpnfab
