/- phys.Machine.of: the frames of an owner, one by one. -/
import Derived.RangeFuncNested
import Derived.RangeFuncBound
import Derived.RangeFuncCalls
import Derived.RangeFuncLeaves
import Derived.RangeFuncBox
import Derived.Shelf.Abstract
import Derived.Shelf.RegionOpen
import Derived.WalkKit
import Derived.OwnWalkIn
import Derived.TacticsInMore
import Derived.LoopNIn
import Derived.LoopIn
import Derived.Maps.AppendAt
import Derived.Sort.QuietIn
import Derived.Test.YthfkpbfapkpnfabPhysRW
namespace Go.Proofs.Ythfkpbfapkpnfab
open Go.RowKit Go.Shelf
set_option maxRecDepth 100000

attribute [local go_sem] Oper.semAt_some

/-- These blocks are as they were. -/
def KeepB (bs : List Nat) (W W' : World) : Prop := ∀ b ∈ bs, W'.heap[b]? = W.heap[b]?
theorem KeepB.refl (bs : List Nat) (W : World) : KeepB bs W W := fun _ _ => rfl
theorem KeepB.trans {bs : List Nat} {A B C : World} (h : KeepB bs A B) (k : KeepB bs B C) : KeepB bs A C := fun b hb => (k b hb).trans (h b hb)
theorem KeepB.blk {bs : List Nat} {W W' : World} (h : KeepB bs W W') {b : Nat} {o : Obj} (hb : b ∈ bs) (ho : W.heap[b]? = some o) : W'.heap[b]? = some o := (h b hb).trans ho
theorem KeepB.putObj {bs : List Nat} {m : Nat} (hm : ∀ b ∈ bs, b < m) (W : World) (l : Nat) (o o' : Obj) (hl : m ≤ l) (_h : W.heap[l]? = some o) (_c : o.isCells = false) (_w : o.isWalk = false) : KeepB bs W (W.putObj l o') :=
  fun b hb => World.putObj_heap_other (fun e => by have := hm b hb; omega)
theorem PhM.keepB {bs : List Nat} {W W' : World} {B F : Nat} {S : List Fr} (h : PhM W B F S) (k : KeepB bs W W') (hB : B ∈ bs) (hF : F ∈ bs) : PhM W' B F S := by
  obtain ⟨c, hc, h1⟩ := h.head
  obtain ⟨r, h2⟩ := h.row
  exact ⟨h.ok, h.len, ⟨c, hc, k.blk hB h1⟩, ⟨r, k.blk hF h2⟩⟩

/-- Is frame i an owner's? -/
def ownsAt (S : List Fr) (o : Int) (i : Nat) : Bool := match S[i]? with | some f => f.owner == o | none => false
/-- The numbers of an owner's frames, of the first k. -/
def idxs (S : List Fr) (o : Int) (k : Nat) : List Int := ((List.range k).filter (ownsAt S o)).map (fun i : Nat => (i : Int))
theorem idxs_zero (S : List Fr) (o : Int) : idxs S o 0 = [] := rfl
theorem idxs_hit {S : List Fr} {o : Int} {k : Nat} (h : ownsAt S o k = true) : idxs S o (k + 1) = idxs S o k ++ [(k : Int)] := by
  simp [idxs, List.range_succ, h]
theorem idxs_miss {S : List Fr} {o : Int} {k : Nat} (h : ownsAt S o k = false) : idxs S o (k + 1) = idxs S o k := by
  simp [idxs, List.range_succ, h]
theorem idxs_pre (S : List Fr) (o : Int) : ∀ {k m : Nat}, k ≤ m → idxs S o k <+: idxs S o m := by
  intro k m h
  induction m with
  | zero => obtain rfl : k = 0 := by omega
            exact List.prefix_refl _
  | succ m ih =>
    by_cases e : k = m + 1
    · subst e; exact List.prefix_refl _
    · refine (ih (by omega)).trans ?_
      cases hq : ownsAt S o m
      · rw [idxs_miss hq]; exact List.prefix_refl _
      · rw [idxs_hit hq]; exact List.prefix_append _ _
theorem idxs_len (S : List Fr) (o : Int) (k : Nat) : (idxs S o k).length ≤ k := by
  unfold idxs; rw [List.length_map]; exact Nat.le_trans (List.length_filter_le _ _) (by simp)

/-- The same, each with the proof that there is such a frame. -/
def idxF (S : List Fr) (o : Int) : Nat → List (Fin S.length)
  | 0 => []
  | k + 1 => if h : k < S.length then (if ownsAt S o k = true then idxF S o k ++ [⟨k, h⟩] else idxF S o k) else idxF S o k
theorem idxF_hit {S : List Fr} {o : Int} {k : Nat} (hk : k < S.length) (h : ownsAt S o k = true) : idxF S o (k + 1) = idxF S o k ++ [⟨k, hk⟩] := by simp [idxF, hk, h]
theorem idxF_miss {S : List Fr} {o : Int} {k : Nat} (h : ownsAt S o k = false) : idxF S o (k + 1) = idxF S o k := by simp [idxF, h]
theorem idxF_pre (S : List Fr) (o : Int) : ∀ {k m : Nat}, k ≤ m → m ≤ S.length → idxF S o k <+: idxF S o m := by
  intro k m h hm
  induction m with
  | zero => obtain rfl : k = 0 := by omega
            exact List.prefix_refl _
  | succ m ih =>
    by_cases e : k = m + 1
    · subst e; exact List.prefix_refl _
    · refine (ih (by omega) (by omega)).trans ?_
      cases hq : ownsAt S o m
      · rw [idxF_miss hq]; exact List.prefix_refl _
      · rw [idxF_hit (by omega) hq]; exact List.prefix_append _ _
theorem idxF_map (S : List Fr) (o : Int) : ∀ (k : Nat), k ≤ S.length → (idxF S o k).map (fun i => ((i.1 : Nat) : Int)) = idxs S o k
  | 0, _ => rfl
  | k + 1, h => by
    cases hq : ownsAt S o k
    · rw [idxF_miss hq, idxs_miss hq, idxF_map S o k (by omega)]
    · rw [idxF_hit (by omega) hq, idxs_hit hq, List.map_append, idxF_map S o k (by omega)]; rfl
theorem idxF_len (S : List Fr) (o : Int) : (idxF S o S.length).length = (idxs S o S.length).length := by
  rw [← idxF_map S o S.length (Nat.le_refl _), List.length_map]
theorem idxF_owns (S : List Fr) (o : Int) : ∀ (k : Nat) (x : Fin S.length), x ∈ idxF S o k → ownsAt S o x.1 = true
  | 0, x, h => by simp [idxF] at h
  | k + 1, x, h => by
    by_cases hk : k < S.length
    · cases hq : ownsAt S o k
      · rw [idxF_miss hq] at h; exact idxF_owns S o k x h
      · rw [idxF_hit hk hq] at h
        rcases List.mem_append.1 h with h' | h'
        · exact idxF_owns S o k x h'
        · simp at h'; rw [h']; exact hq
    · simp [idxF, hk] at h; exact idxF_owns S o k x h

theorem of_any (p : Option Addr) (o : Int) (w : World) :
    Calls Try.prog 65 #[.pointer p, .int .i64 o] w fun e w' =>
      e = .returned (.func (.func 97) #[] #[.pointer (some ⟨w.heap.size, 0, none⟩), .pointer (some ⟨w.heap.size + 1, 0, none⟩)]) ∧
      (w.alloc (.cells #[.pointer p] 22)).alloc (.cells #[.int .i64 o] 3) = w' := by
  go_enter Try.func65, Try.ntmps65
  go_wp2
  go_ret
  exact ⟨rfl, rfl⟩

set_option maxHeartbeats 2000000 in
theorem of1_in (n : Nat) (hn : 3 ≤ n) (l Bm Bo B Fb : Nat) (S : List Fr) (o : Int) (J Jx : List (Fin S.length) → World → Prop)
    (hY : ∀ pre x W, J pre W → pre.length < (idxF S o S.length).length → YieldAt Fence.wide (n - 1) Try.prog l #[.int .i64 (x.1 : Nat)] W fun e W' =>
      (e = .returned (.bool true) ∧ J (pre ++ [x]) W' ∧ KeepB [B, Fb, Bm, Bo] W W') ∨ (e = .returned (.bool false) ∧ Jx (pre ++ [x]) W'))
    (hDN : ∀ pre W m, J pre W → J pre (W.drewN m))
    (W : World) (h : PhM W B Fb S) (hm : W.heap[Bm]? = some (.cells #[.pointer (some ⟨B, 0, none⟩)] 22 (0, 0))) (ho : W.heap[Bo]? = some (.cells #[.int .i64 o] 3 (0, 0))) (h0 : J [] W) :
    CallsIn Fence.wide n Try.prog 97 #[.func (.yield l) #[] #[], .pointer (some ⟨Bm, 0, none⟩), .pointer (some ⟨Bo, 0, none⟩)] W fun e W' => (∃ v, e = .returned v) ∧
      ((∃ ys, ys = idxF S o S.length ∧ J ys W') ∨ (∃ pre, pre <+: idxF S o S.length ∧ Jx pre W')) := by
  have hcm := cell_of_one hm
  have hlen := h.len
  have hD1 : 1 ≤ n - 1 := by omega
  have hD0 : 1 ≤ n := by omega
  refine callsIn_of_wp Try.func97 rfl trivial ?_ rfl
  simp only [Try.ntmps97, List.size_toArray, List.length_cons, List.length_nil, Nat.reduceAdd, Nat.reduceSub, Array.replicate_succ, Array.replicate_zero, List.push_toArray, List.append_toArray, List.nil_append, List.cons_append]
  gi_wp2_with (refine ⟨trivial, ?_⟩; gi_at_call 24; refine (callsIn_wide.2 (size_made _ h)).mono ?_; rintro e w' ⟨rfl, rfl⟩)
  gi_loopw [7] (fun v wr => ∃ k : Nat, k ≤ S.length ∧ v = .int .i64 k ∧ J (idxF S o k) wr ∧ KeepB [B, Fb, Bm, Bo] W wr) (fun v _ => S.length - (intOf v).toNat)
  case atStart => exact ⟨0, Nat.zero_le _, rfl, h0, KeepB.refl _ _⟩
  case round =>
    obtain ⟨k, hk, rfl, hJ, hK⟩ := hrel
    by_cases hlt : k < S.length
    · have hP := h.keepB hK (by simp) (by simp)
      obtain ⟨c, hc, hfr⟩ := hP.frames
      obtain ⟨f, hf⟩ : ∃ f, S[k]? = some f := ⟨S[k], by simp [hlt]⟩
      have hcl := hP.cell hf 0 (by omega)
      simp only [Nat.add_zero, Fr.cells, List.getElem?_cons_zero] at hcl
      have hcm := cell_of_one (hK.blk (by simp) hm)
      have hco := cell_of_one (hK.blk (by simp) ho)
      by_cases hq : f.owner = o
      · have hht : ownsAt S o k = true := by simp [ownsAt, hf, hq]
        rw [hq] at hcl
        obtain ⟨fn, tmps, assign, body, hy, hR⟩ := hY (idxF S o k) ⟨k, hlt⟩ wr.drew (hDN _ _ 1 hJ) (by
          have h1 := (idxF_pre S o (show k + 1 ≤ S.length by omega) (Nat.le_refl _)).length_le
          rw [idxF_hit hlt hht] at h1; simp at h1; omega)
        have HM := Lib.hid hht; clear hht hq
        have hR' := hR.mono (R' := fun e W' => ∃ b : Bool, e = .returned (.bool b) ∧ Hid ((b = true ∧ J (idxF S o k ++ [⟨k, hlt⟩]) W' ∧ KeepB [B, Fb, Bm, Bo] wr.drew W') ∨ (b = false ∧ Jx (idxF S o k ++ [⟨k, hlt⟩]) W')))
          (by rintro e W' (⟨h1, h2, h3⟩ | ⟨h1, h2⟩)
              · exact ⟨true, h1, .inl ⟨rfl, h2, h3⟩⟩
              · exact ⟨false, h1, .inr ⟨rfl, h2⟩⟩)
        clear hR
        gi_wp2
        gi_region_with (refine hR'.mono ?_; rintro e W' ⟨b, rfl, hb⟩)
        all_goals gi_wp2
        all_goals rcases hb.out with ⟨hb1, hJ2, hK2⟩ | ⟨hb1, hJ2⟩
        all_goals subst hb1
        all_goals first
          | (exfalso; simp_all; done)
          | (refine bodyPost_ret (results_none rfl _ _ _) rfl ?_
             exact ⟨⟨_, rfl⟩, .inr ⟨idxF S o k ++ [⟨k, hlt⟩], by rw [← idxF_hit hlt HM.out]; exact idxF_pre S o (by omega) (Nat.le_refl _), hJ2⟩⟩)
          | (go_roundw
             case rel => exact ⟨k + 1, by omega, by go_num, by rw [idxF_hit hlt HM.out]; exact hJ2, hK.trans hK2⟩
             case measure => simp [intOf]; omega)
      · have hne : (f.owner == o) = false := beq_eq_false_iff_ne.2 hq
        have hms : ownsAt S o k = false := by simp [ownsAt, hf, hne]
        have HM := Lib.hid hms; clear hms hq
        gi_wp2
        refine wpIn_region_quiet_lit rfl (by kernel_rfl) (by kernel_rfl) ?_
        repeat (gi_big_quiet_step (fail))
        refine BigFrame.wpQuietIn_skip (fun _ _ _ _ => trivial) rfl ?_
        simp only [Act.put, List.setIfInBounds_toArray, List.set_cons_zero, List.set_cons_succ]
        repeat (gi_big_quiet_step (fail))
        refine wpQuietIn_nil ?_
        rintro _ ⟨nq, rfl⟩
        gi_wp2
        go_roundw
        case rel => exact ⟨k + 1, by omega, by go_num, by rw [idxF_miss HM.out]; exact hDN _ _ _ hJ, hK.trans (fun _ _ => rfl)⟩
        case measure => simp [intOf]; omega
    · obtain rfl : k = S.length := by omega
      gi_wp2
      go_end0
      exact ⟨⟨_, rfl⟩, .inl ⟨_, rfl, hJ⟩⟩

end Go.Proofs.Ythfkpbfapkpnfab
