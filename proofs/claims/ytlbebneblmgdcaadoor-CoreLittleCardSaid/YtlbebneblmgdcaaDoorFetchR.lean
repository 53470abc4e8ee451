/- Bytes fetched and stored through tables: what the code and the document answer, as one plain function of the frames. -/
import Derived.Test.YtlbebneblmgdcaaDoorPteH
namespace Go.Proofs.YtlbebneblmgdcaaDoor
open Go.RowKit
set_option maxRecDepth 100000

def fetchR (S : List Fr) (root va n : Int) : Int × List Int :=
  if n < 0 ∨ 256 < n ∨ (0 < n ∧ 1048576 < va + n) then (1, []) else if errTo S root va false n.toNat = 0 then (0, fetchB S root va n.toNat) else (errTo S root va false n.toNat, [])
def storeR (S : List Fr) (root va : Int) (bs : List Int) : Int × List Fr :=
  if (bs.length : Int) < 0 ∨ 256 < (bs.length : Int) ∨ (0 < (bs.length : Int) ∧ 1048576 < va + bs.length) then (1, S) else if errTo S root va true bs.length = 0 then (0, putsTo (plcs S root va true bs.length) bs S bs.length) else (errTo S root va true bs.length, S)

theorem fetchB_len (S : List Fr) (root va : Int) (N : Nat) : (fetchB S root va N).length = N := by simp [fetchB, plcs_len]
theorem byteAt_range {S : List Fr} (hS : okS S) (p : Int × Int) : 0 ≤ byteAt S p ∧ byteAt S p ≤ 255 := by
  unfold byteAt
  split
  · rename_i f hf
    have hok := hS f (List.mem_of_getElem? hf)
    rw [List.getD_eq_getElem?_getD]
    cases h : f.bytes[p.2.toNat]? with
    | none => simp
    | some x => simpa using hok.2 x (List.mem_of_getElem? h)
  · omega
theorem fetchR_len {S : List Fr} {root va n : Int} (h : (fetchR S root va n).1 = 0) : ((fetchR S root va n).2.length : Int) = n := by
  revert h
  unfold fetchR
  split
  · intro h; simp at h
  · split
    · intro _; simp only [fetchB_len]; omega
    · rename_i h1; intro h; exact absurd h h1
theorem fetchR_fits {S : List Fr} {root va n : Int} (h : (fetchR S root va n).1 = 0) (hn : 0 < n) : va + n ≤ 1048576 := by
  revert h
  unfold fetchR
  split
  · intro h; simp at h
  · intro _; omega
theorem fetchR_small {S : List Fr} {root va n : Int} : (fetchR S root va n).2.length ≤ 256 := by
  unfold fetchR
  split
  · simp
  · split
    · simp only [fetchB_len]; omega
    · simp
theorem fetchR_range {S : List Fr} (hS : okS S) {root va n : Int} : ∀ x ∈ (fetchR S root va n).2, 0 ≤ x ∧ x ≤ 255 := by
  unfold fetchR
  split
  · simp
  · split
    · intro x hx
      obtain ⟨p, _, rfl⟩ := List.mem_map.1 hx
      exact byteAt_range hS p
    · simp
theorem storeR_len {S : List Fr} {root va : Int} {bs : List Int} : (storeR S root va bs).2.length = S.length := by
  unfold storeR
  split
  · rfl
  · split
    · exact putsTo_len _ _ _ _
    · rfl
theorem storeR_inv {m : Nat} {S : List Fr} (h : invS m S) {root va : Int} {bs : List Int} : invS m (storeR S root va bs).2 := by
  unfold storeR
  split
  · exact h
  · split
    · exact invS_puts h _ _ _
    · exact h

theorem pfetchR {B F : Nat} {S : List Fr} (root va n : Int) (w : World) (h : PhM w B F S) (h0 : 0 ≤ va) (h1 : va ≤ 4294967295) (hn : n < 9223372036854775808) :
    Calls Tryd.prog 17 #[.pointer (some ⟨B, 0, none⟩), .int .i64 root, .int .u32 va, .int .i64 n] w (OwnB w (fetchR S root va n).1 (fetchR S root va n).2) := by
  by_cases hb : badN va n
  · refine (fetch_bad root va n w h h0 h1 hb hn).mono ?_
    rintro e w' ⟨rfl, hm⟩
    unfold fetchR
    rw [if_pos (show n < 0 ∨ 256 < n ∨ (0 < n ∧ 1048576 < va + n) from hb)]
    exact ⟨none, 0, 0, rfl, hm, World.ownsRow_nil _ _ _ _⟩
  · obtain ⟨N, rfl, hN, hv⟩ := not_bad hb
    unfold fetchR
    rw [if_neg (show ¬ ((N : Int) < 0 ∨ 256 < (N : Int) ∨ (0 < (N : Int) ∧ 1048576 < va + N)) from hb), Int.toNat_natCast]
    refine (fetch_in root va N w h h0 hN hv).mono ?_
    rintro e w' ⟨hm, ⟨q, rfl⟩ | ⟨he, q, c, rfl, ho⟩⟩
    · rw [if_neg q]
      exact ⟨none, 0, 0, rfl, hm, World.ownsRow_nil _ _ _ _⟩
    · rw [if_pos he]
      exact ⟨q, N, c, rfl, hm, ho⟩
theorem pstoreR {B F : Nat} {S : List Fr} (root va : Int) (q : Option Addr) (bs : List Int) (c : Nat) (w : World) (h : PhM w B F S) (h0 : 0 ≤ va) (h1 : va ≤ 4294967295) (hy : Byt w q bs c) (hF : ∀ b off, 0 < bs.length → q = some ⟨b, off, none⟩ → b ≠ F) :
    Calls Tryd.prog 74 #[.pointer (some ⟨B, 0, none⟩), .int .i64 root, .int .u32 va, .slice q bs.length c] w fun e w' => e = .returned (.int .i64 (storeR S root va bs).1) ∧ Mod (One F) w w' ∧ PhM w' B F (storeR S root va bs).2 := by
  by_cases hb : badN va bs.length
  · refine (store_bad root va q _ c w h h0 h1 hb (by have := hy.len; omega)).mono ?_
    rintro e w' ⟨rfl, hm⟩
    unfold storeR
    rw [if_pos (show (bs.length : Int) < 0 ∨ 256 < (bs.length : Int) ∨ (0 < (bs.length : Int) ∧ 1048576 < va + bs.length) from hb)]
    exact ⟨rfl, hm.of_no, h.kept hm (fun q => q) (fun q => q)⟩
  · obtain ⟨N, hNe, hN, hv⟩ := not_bad hb
    obtain rfl : N = bs.length := by omega
    unfold storeR
    rw [if_neg (show ¬ ((bs.length : Int) < 0 ∨ 256 < (bs.length : Int) ∨ (0 < (bs.length : Int) ∧ 1048576 < va + bs.length)) from hb)]
    refine (store_in root va q bs c w h h0 hN hv hy hF).mono ?_
    rintro e w' (⟨he, rfl, hm, hP⟩ | ⟨he, rfl, hm, hP⟩)
    · rw [if_neg he]
      exact ⟨rfl, hm.of_no, hP⟩
    · rw [if_pos he]
      exact ⟨rfl, hm, hP⟩

end Go.Proofs.YtlbebneblmgdcaaDoor
