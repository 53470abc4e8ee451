/- phys.Machine.of: the frames of an owner, one by one. phys.Machine: Owned, Left, Alloc. phys.Machine: Alloc. phys.Machine: Alloc for the hypervisor. phys.Machine: Alloc where it is known which frame is the least free one; bytes as a text. -/
import Derived.RangeFuncNested
import Derived.RangeFuncBound
import Derived.RangeFuncCalls
import Derived.RangeFuncLeaves
import Derived.RangeFuncBox
import Derived.Shelf.Abstract
import Derived.Shelf.RegionOpen
import Derived.WalkKit
import Derived.OwnWalkIn
import Derived.TacticsInMore
import Derived.LoopNIn
import Derived.LoopIn
import Derived.Maps.AppendAt
import Derived.Sort.QuietIn
import Derived.Test.YtmdeljacbekbpaaDoorPhysG
import Derived.Laws.BytesArg
/- phys.Machine.of: the frames of an owner, one by one. -/
namespace Go.Proofs.YtmdeljacbekbpaaDoor
open Go.RowKit Go.Shelf
set_option maxRecDepth 100000

attribute [local go_sem] Oper.semAt_some

/-- These blocks are as they were. -/
def KeepB (bs : List Nat) (W W' : World) : Prop := ∀ b ∈ bs, W'.heap[b]? = W.heap[b]?
theorem KeepB.refl (bs : List Nat) (W : World) : KeepB bs W W := fun _ _ => rfl
theorem KeepB.trans {bs : List Nat} {A B C : World} (h : KeepB bs A B) (k : KeepB bs B C) : KeepB bs A C := fun b hb => (k b hb).trans (h b hb)
theorem KeepB.blk {bs : List Nat} {W W' : World} (h : KeepB bs W W') {b : Nat} {o : Obj} (hb : b ∈ bs) (ho : W.heap[b]? = some o) : W'.heap[b]? = some o := (h b hb).trans ho
theorem KeepB.putObj {bs : List Nat} {m : Nat} (hm : ∀ b ∈ bs, b < m) (W : World) (l : Nat) (o o' : Obj) (hl : m ≤ l) (_h : W.heap[l]? = some o) (_c : o.isCells = false) (_w : o.isWalk = false) : KeepB bs W (W.putObj l o') :=
  fun b hb => World.putObj_heap_other (fun e => by have := hm b hb; omega)
theorem PhM.keepB {bs : List Nat} {W W' : World} {B F : Nat} {S : List Fr} (h : PhM W B F S) (k : KeepB bs W W') (hB : B ∈ bs) (hF : F ∈ bs) : PhM W' B F S := by
  obtain ⟨c, hc, h1⟩ := h.head
  obtain ⟨r, h2⟩ := h.row
  exact ⟨h.ok, h.len, ⟨c, hc, k.blk hB h1⟩, ⟨r, k.blk hF h2⟩⟩

/-- Is frame i an owner's? -/
def ownsAt (S : List Fr) (o : Int) (i : Nat) : Bool := match S[i]? with | some f => f.owner == o | none => false
/-- The numbers of an owner's frames, of the first k. -/
def idxs (S : List Fr) (o : Int) (k : Nat) : List Int := ((List.range k).filter (ownsAt S o)).map (fun i : Nat => (i : Int))
theorem idxs_zero (S : List Fr) (o : Int) : idxs S o 0 = [] := rfl
theorem idxs_hit {S : List Fr} {o : Int} {k : Nat} (h : ownsAt S o k = true) : idxs S o (k + 1) = idxs S o k ++ [(k : Int)] := by
  simp [idxs, List.range_succ, h]
theorem idxs_miss {S : List Fr} {o : Int} {k : Nat} (h : ownsAt S o k = false) : idxs S o (k + 1) = idxs S o k := by
  simp [idxs, List.range_succ, h]
theorem idxs_pre (S : List Fr) (o : Int) : ∀ {k m : Nat}, k ≤ m → idxs S o k <+: idxs S o m := by
  intro k m h
  induction m with
  | zero => obtain rfl : k = 0 := by omega
            exact List.prefix_refl _
  | succ m ih =>
    by_cases e : k = m + 1
    · subst e; exact List.prefix_refl _
    · refine (ih (by omega)).trans ?_
      cases hq : ownsAt S o m
      · rw [idxs_miss hq]; exact List.prefix_refl _
      · rw [idxs_hit hq]; exact List.prefix_append _ _
theorem idxs_len (S : List Fr) (o : Int) (k : Nat) : (idxs S o k).length ≤ k := by
  unfold idxs; rw [List.length_map]; exact Nat.le_trans (List.length_filter_le _ _) (by simp)

/-- The same, each with the proof that there is such a frame. -/
def idxF (S : List Fr) (o : Int) : Nat → List (Fin S.length)
  | 0 => []
  | k + 1 => if h : k < S.length then (if ownsAt S o k = true then idxF S o k ++ [⟨k, h⟩] else idxF S o k) else idxF S o k
theorem idxF_hit {S : List Fr} {o : Int} {k : Nat} (hk : k < S.length) (h : ownsAt S o k = true) : idxF S o (k + 1) = idxF S o k ++ [⟨k, hk⟩] := by simp [idxF, hk, h]
theorem idxF_miss {S : List Fr} {o : Int} {k : Nat} (h : ownsAt S o k = false) : idxF S o (k + 1) = idxF S o k := by simp [idxF, h]
theorem idxF_pre (S : List Fr) (o : Int) : ∀ {k m : Nat}, k ≤ m → m ≤ S.length → idxF S o k <+: idxF S o m := by
  intro k m h hm
  induction m with
  | zero => obtain rfl : k = 0 := by omega
            exact List.prefix_refl _
  | succ m ih =>
    by_cases e : k = m + 1
    · subst e; exact List.prefix_refl _
    · refine (ih (by omega) (by omega)).trans ?_
      cases hq : ownsAt S o m
      · rw [idxF_miss hq]; exact List.prefix_refl _
      · rw [idxF_hit (by omega) hq]; exact List.prefix_append _ _
theorem idxF_map (S : List Fr) (o : Int) : ∀ (k : Nat), k ≤ S.length → (idxF S o k).map (fun i => ((i.1 : Nat) : Int)) = idxs S o k
  | 0, _ => rfl
  | k + 1, h => by
    cases hq : ownsAt S o k
    · rw [idxF_miss hq, idxs_miss hq, idxF_map S o k (by omega)]
    · rw [idxF_hit (by omega) hq, idxs_hit hq, List.map_append, idxF_map S o k (by omega)]; rfl
theorem idxF_len (S : List Fr) (o : Int) : (idxF S o S.length).length = (idxs S o S.length).length := by
  rw [← idxF_map S o S.length (Nat.le_refl _), List.length_map]
theorem idxF_owns (S : List Fr) (o : Int) : ∀ (k : Nat) (x : Fin S.length), x ∈ idxF S o k → ownsAt S o x.1 = true
  | 0, x, h => by simp [idxF] at h
  | k + 1, x, h => by
    by_cases hk : k < S.length
    · cases hq : ownsAt S o k
      · rw [idxF_miss hq] at h; exact idxF_owns S o k x h
      · rw [idxF_hit hk hq] at h
        rcases List.mem_append.1 h with h' | h'
        · exact idxF_owns S o k x h'
        · simp at h'; rw [h']; exact hq
    · simp [idxF, hk] at h; exact idxF_owns S o k x h

theorem of_any (p : Option Addr) (o : Int) (w : World) :
    Calls Tryd.prog 56 #[.pointer p, .int .i64 o] w fun e w' =>
      e = .returned (.func (.func 68) #[] #[.pointer (some ⟨w.heap.size, 0, none⟩), .pointer (some ⟨w.heap.size + 1, 0, none⟩)]) ∧
      (w.alloc (.cells #[.pointer p] 29)).alloc (.cells #[.int .i64 o] 3) = w' := by
  go_enter Tryd.func56, Tryd.ntmps56
  go_wp2
  go_ret
  exact ⟨rfl, rfl⟩

set_option maxHeartbeats 2000000 in
theorem of1_in (n : Nat) (hn : 3 ≤ n) (l Bm Bo B Fb : Nat) (S : List Fr) (o : Int) (J Jx : List (Fin S.length) → World → Prop)
    (hY : ∀ pre x W, J pre W → pre.length < (idxF S o S.length).length → YieldAt Fence.wide (n - 1) Tryd.prog l #[.int .i64 (x.1 : Nat)] W fun e W' =>
      (e = .returned (.bool true) ∧ J (pre ++ [x]) W' ∧ KeepB [B, Fb, Bm, Bo] W W') ∨ (e = .returned (.bool false) ∧ Jx (pre ++ [x]) W'))
    (hDN : ∀ pre W m, J pre W → J pre (W.drewN m))
    (W : World) (h : PhM W B Fb S) (hm : W.heap[Bm]? = some (.cells #[.pointer (some ⟨B, 0, none⟩)] 29 (0, 0))) (ho : W.heap[Bo]? = some (.cells #[.int .i64 o] 3 (0, 0))) (h0 : J [] W) :
    CallsIn Fence.wide n Tryd.prog 68 #[.func (.yield l) #[] #[], .pointer (some ⟨Bm, 0, none⟩), .pointer (some ⟨Bo, 0, none⟩)] W fun e W' => (∃ v, e = .returned v) ∧
      ((∃ ys, ys = idxF S o S.length ∧ J ys W') ∨ (∃ pre, pre <+: idxF S o S.length ∧ Jx pre W')) := by
  have hcm := cell_of_one hm
  have hlen := h.len
  have hD1 : 1 ≤ n - 1 := by omega
  have hD0 : 1 ≤ n := by omega
  refine callsIn_of_wp Tryd.func68 rfl trivial ?_ rfl
  simp only [Tryd.ntmps68, List.size_toArray, List.length_cons, List.length_nil, Nat.reduceAdd, Nat.reduceSub, Array.replicate_succ, Array.replicate_zero, List.push_toArray, List.append_toArray, List.nil_append, List.cons_append]
  gi_wp2_with (refine ⟨trivial, ?_⟩; gi_at_call 35; refine (callsIn_wide.2 (size_made _ h)).mono ?_; rintro e w' ⟨rfl, rfl⟩)
  gi_loopw [7] (fun v wr => ∃ k : Nat, k ≤ S.length ∧ v = .int .i64 k ∧ J (idxF S o k) wr ∧ KeepB [B, Fb, Bm, Bo] W wr) (fun v _ => S.length - (intOf v).toNat)
  case atStart => exact ⟨0, Nat.zero_le _, rfl, h0, KeepB.refl _ _⟩
  case round =>
    obtain ⟨k, hk, rfl, hJ, hK⟩ := hrel
    by_cases hlt : k < S.length
    · have hP := h.keepB hK (by simp) (by simp)
      obtain ⟨c, hc, hfr⟩ := hP.frames
      obtain ⟨f, hf⟩ : ∃ f, S[k]? = some f := ⟨S[k], by simp [hlt]⟩
      have hcl := hP.cell hf 0 (by omega)
      simp only [Nat.add_zero, Fr.cells, List.getElem?_cons_zero] at hcl
      have hcm := cell_of_one (hK.blk (by simp) hm)
      have hco := cell_of_one (hK.blk (by simp) ho)
      by_cases hq : f.owner = o
      · have hht : ownsAt S o k = true := by simp [ownsAt, hf, hq]
        rw [hq] at hcl
        obtain ⟨fn, tmps, assign, body, hy, hR⟩ := hY (idxF S o k) ⟨k, hlt⟩ wr.drew (hDN _ _ 1 hJ) (by
          have h1 := (idxF_pre S o (show k + 1 ≤ S.length by omega) (Nat.le_refl _)).length_le
          rw [idxF_hit hlt hht] at h1; simp at h1; omega)
        have HM := Lib.hid hht; clear hht hq
        have hR' := hR.mono (R' := fun e W' => ∃ b : Bool, e = .returned (.bool b) ∧ Hid ((b = true ∧ J (idxF S o k ++ [⟨k, hlt⟩]) W' ∧ KeepB [B, Fb, Bm, Bo] wr.drew W') ∨ (b = false ∧ Jx (idxF S o k ++ [⟨k, hlt⟩]) W')))
          (by rintro e W' (⟨h1, h2, h3⟩ | ⟨h1, h2⟩)
              · exact ⟨true, h1, .inl ⟨rfl, h2, h3⟩⟩
              · exact ⟨false, h1, .inr ⟨rfl, h2⟩⟩)
        clear hR
        gi_wp2
        gi_region_with (refine hR'.mono ?_; rintro e W' ⟨b, rfl, hb⟩)
        all_goals gi_wp2
        all_goals rcases hb.out with ⟨hb1, hJ2, hK2⟩ | ⟨hb1, hJ2⟩
        all_goals subst hb1
        all_goals first
          | (exfalso; simp_all; done)
          | (refine bodyPost_ret (results_none rfl _ _ _) rfl ?_
             exact ⟨⟨_, rfl⟩, .inr ⟨idxF S o k ++ [⟨k, hlt⟩], by rw [← idxF_hit hlt HM.out]; exact idxF_pre S o (by omega) (Nat.le_refl _), hJ2⟩⟩)
          | (go_roundw
             case rel => exact ⟨k + 1, by omega, by go_num, by rw [idxF_hit hlt HM.out]; exact hJ2, hK.trans hK2⟩
             case measure => simp [intOf]; omega)
      · have hne : (f.owner == o) = false := beq_eq_false_iff_ne.2 hq
        have hms : ownsAt S o k = false := by simp [ownsAt, hf, hne]
        have HM := Lib.hid hms; clear hms hq
        gi_wp2
        refine wpIn_region_quiet_lit rfl (by kernel_rfl) (by kernel_rfl) ?_
        repeat (gi_big_quiet_step (fail))
        refine BigFrame.wpQuietIn_skip (fun _ _ _ _ => trivial) rfl ?_
        simp only [Act.put, List.setIfInBounds_toArray, List.set_cons_zero, List.set_cons_succ]
        repeat (gi_big_quiet_step (fail))
        refine wpQuietIn_nil ?_
        rintro _ ⟨nq, rfl⟩
        gi_wp2
        go_roundw
        case rel => exact ⟨k + 1, by omega, by go_num, by rw [idxF_miss HM.out]; exact hDN _ _ _ hJ, hK.trans (fun _ _ => rfl)⟩
        case measure => simp [intOf]; omega
    · obtain rfl : k = S.length := by omega
      gi_wp2
      go_end0
      exact ⟨⟨_, rfl⟩, .inl ⟨_, rfl, hJ⟩⟩

end Go.Proofs.YtmdeljacbekbpaaDoor

/- phys.Machine: Owned, Left, Alloc. -/
namespace Go.Proofs.YtmdeljacbekbpaaDoor
open Go.RowKit Go.Shelf
set_option maxRecDepth 100000

attribute [local go_sem] Oper.semAt_some

theorem of1_stops (n : Nat) (hn : 3 ≤ n) (Bm Bo B Fb : Nat) (S : List Fr) (o : Int) (w : World) (h : PhM w B Fb S)
    (hm : w.heap[Bm]? = some (.cells #[.pointer (some ⟨B, 0, none⟩)] 29 (0, 0))) (ho : w.heap[Bo]? = some (.cells #[.int .i64 o] 3 (0, 0))) :
    SeqStopsK Fence.wide n Tryd.prog 68 #[.pointer (some ⟨Bm, 0, none⟩), .pointer (some ⟨Bo, 0, none⟩)] (fun x : Fin S.length => #[Value.int .i64 (x.1 : Nat)]) (KeepB [B, Fb, Bm, Bo])
      (fun ys => ys = idxF S o S.length) (fun pre => pre <+: idxF S o S.length) (idxF S o S.length).length w := fun l J Jx W hW hJ _ hY h0 => by
  refine of1_in n hn l Bm Bo B Fb S o J Jx hY (fun pre W1 m hj => hJ pre W1 _ none hj ⟨rfl, rfl, rfl, Nat.le_refl _, fun _ _ _ => rfl⟩ (fun r e => by cases e)) W (h.kept (Mod.of_below (P := No) hW) (fun p => p) (fun p => p)) ?_ ?_ h0
  · exact (hW.block Bm (lt_of_blk hm)).trans hm
  · exact (hW.block Bo (lt_of_blk ho)).trans ho

theorem ownsRow_base {W : World} {a b : Nat} {e : TypeId} {size : Nat} {v : Value} {k : Nat} {xs : List Value} (h : W.ownsRow a e size v k xs) (hb : b ≤ a) : W.ownsRow b e size v k xs := by
  refine ⟨h.1, ?_⟩
  rcases h.2 with h2 | ⟨g, cap, cur, hv, hg, r⟩
  · exact .inl h2
  · exact .inr ⟨g, cap, cur, hv, Nat.le_trans hb hg, r⟩

theorem owns_slice {W : World} {b : Nat} {e : TypeId} {size : Nat} {v : Value} {k : Nat} {xs : List Value} (h : W.ownsRow b e size v k xs) : ∃ g cap, v = .slice g k cap := by
  rcases h.2 with ⟨rfl, h0⟩ | ⟨g, cap, _, rfl, _⟩
  · exact ⟨none, 0, by rw [h0]⟩
  · exact ⟨_, _, rfl⟩

theorem boxed_appended {W w1 : World} {n₀ Bx : Nat} {t e : TypeId} {size : Nat} {v v' : Value} {k m : Nat} {xs ys : List Value} {tmp : Obj}
    (hv : Boxed W Bx t v) (hte : t ≠ e) (hrow : W.ownsRow n₀ e size v k xs) (hn₀ : n₀ ≤ W.heap.size) (hown' : w1.ownsRow n₀ e size v' m ys) (hgrow : (W.alloc tmp).grownBy w1 v.ownBlock) :
    Boxed w1 Bx t v ∧ Boxed (w1.setCell ⟨Bx, 0, none⟩ v') Bx t v' ∧ (w1.setCell ⟨Bx, 0, none⟩ v').ownsRow n₀ e size v' m ys ∧ KeepsOthers W (w1.setCell ⟨Bx, 0, none⟩ v') ∧
      ∀ b, b < n₀ → b ≠ Bx → (w1.setCell ⟨Bx, 0, none⟩ v').heap[b]? = W.heap[b]? := by
  obtain ⟨a1, a2, _, a4, _⟩ := Boxed.appended (n₀ := 0) hv hte (ownsRow_base hrow (Nat.zero_le _)) (Nat.zero_le _) (Nat.zero_le _) (ownsRow_base hown' (Nat.zero_le _)) hgrow
  refine ⟨a1, a2, hown'.kept (grownBy_setCell' w1 Bx v') (.inr (a1.not_row hte hown').symm), a4, fun b hb hne => ?_⟩
  rw [Below.heap_setCell _ _ _ _ hne, hgrow.block b (by simp; omega) (fun e => by have := (hrow.lt b e.symm).1; omega)]
  exact Below.heap_alloc _ _ _ (by omega)

theorem Tryd.infoInt : (Tryd.prog.info? 3).map (fun i => (i.zero, i.size, i.bytes)) = some (some (.int .i64 0), 1, 8) := by kernel_rfl

end Go.Proofs.YtmdeljacbekbpaaDoor

/- phys.Machine: Alloc. -/
namespace Go.Proofs.YtmdeljacbekbpaaDoor
open Go.RowKit Go.Shelf
set_option maxRecDepth 100000

theorem alloc_none {p : Option Addr} (o : Int) (w : World) (h : NoM w p) :
    Calls Tryd.prog 33 #[.pointer p, .int .i64 o] w fun e w' => e = .returned (.tuple #[.int .i64 0, .int .i64 7]) ∧ Mod No w w' := by
  go_enter Tryd.func33, Tryd.ntmps33
  go_wp2_with (go_at_call 54; refine (none_none p _ ((((h.alloc _).alloc _).alloc _).alloc _)).mono ?_; rintro e w' ⟨rfl, rfl⟩)
  exact bodyPost_ret (v := .tuple #[.int .i64 0, .int .i64 7]) (by simp [results, Tryd.results33, go_sem]) rfl ⟨rfl, ((((Mod.refl No w).alloc _).alloc _).alloc _).alloc _⟩

theorem alloc_arg {B Fb : Nat} {S : List Fr} (o : Int) (w : World) (h : PhM w B Fb S) (ho : (o < 0 ∨ 8 ≤ o) ∧ o ≠ -2) :
    Calls Tryd.prog 33 #[.pointer (some ⟨B, 0, none⟩), .int .i64 o] w fun e w' => e = .returned (.tuple #[.int .i64 0, .int .i64 1]) ∧ Mod No w w' := by
  have h0 := ((((h.alloc (.cells #[.pointer (some ⟨B, 0, none⟩)] 29)).alloc (.cells #[.int .i64 o] 3)).alloc (.cells #[.int .i64 0] 3)).alloc (.cells #[.int .i64 0] 34)).made
  have d1 : (o != -2) = true := bne_iff_ne.2 ho.2
  have hd := ho.1
  clear ho
  go_enter Tryd.func33, Tryd.ntmps33
  go_wp2_with (first
    | (go_at_call 54; refine (none_made B _ h0).mono ?_; rintro e w' ⟨rfl, rfl⟩)
    | (go_at_call 55; refine (domain_no o _ hd).mono ?_; rintro e w' ⟨rfl, rfl⟩))
  exact bodyPost_ret (v := .tuple #[.int .i64 0, .int .i64 1]) (by simp [results, Tryd.results33, go_sem]) rfl ⟨rfl, ((((Mod.refl No w).alloc _).alloc _).alloc _).alloc _⟩

/-- The six boxes that a call lays. -/
structure AllocB (B : Nat) (o : Int) (w W0 : World) : Prop where
  sz : W0.heap.size = w.heap.size + 6
  b0 : Boxed W0 w.heap.size 29 (.pointer (some ⟨B, 0, none⟩))
  b1 : Boxed W0 (w.heap.size + 1) 3 (.int .i64 o)
  b2 : Boxed W0 (w.heap.size + 1 + 1) 3 (.int .i64 0)
  b3 : Boxed W0 (w.heap.size + 1 + 1 + 1) 34 (.int .i64 0)
  b4 : Boxed W0 (w.heap.size + 1 + 1 + 1 + 1) 29 (.pointer (some ⟨B, 0, none⟩))
  b5 : Boxed W0 (w.heap.size + 1 + 1 + 1 + 1 + 1) 3 (.int .i64 (-1))
  below : Below w.heap.size w W0

theorem alloc_boxes (B : Nat) (o : Int) (w : World) {W0 : World} (h : ((((((w.alloc (.cells #[.pointer (some ⟨B, 0, none⟩)] 29)).alloc (.cells #[.int .i64 o] 3)).alloc (.cells #[.int .i64 0] 3)).alloc (.cells #[.int .i64 0] 34)).alloc
      (.cells #[.pointer (some ⟨B, 0, none⟩)] 29)).alloc (.cells #[.int .i64 (-1)] 3)) = W0) : AllocB B o w W0 := by
  subst h
  have c0 := Boxed.new w 29 (.pointer (some ⟨B, 0, none⟩))
  generalize h1 : w.alloc (.cells #[.pointer (some ⟨B, 0, none⟩)] 29) = w1 at *
  have s1 : w1.heap.size = w.heap.size + 1 := by rw [← h1]; simp
  have c1 := Boxed.new w1 3 (.int .i64 o)
  rw [s1] at c1
  have c0 := c0.alloc (.cells #[.int .i64 o] 3)
  have l1 : Below w.heap.size w w1 := by rw [← h1]; exact (Below.refl _ w).alloc (Nat.le_refl _) _
  have l2 := l1.alloc (by omega) (.cells #[.int .i64 o] 3)
  generalize h2 : w1.alloc (.cells #[.int .i64 o] 3) = w2 at *
  have s2 : w2.heap.size = w.heap.size + 1 + 1 := by rw [← h2]; simp [s1]
  have c2 := Boxed.new w2 3 (.int .i64 0)
  rw [s2] at c2
  have c0 := c0.alloc (.cells #[.int .i64 0] 3)
  have c1 := c1.alloc (.cells #[.int .i64 0] 3)
  have l3 := l2.alloc (by omega) (.cells #[.int .i64 0] 3)
  generalize h3 : w2.alloc (.cells #[.int .i64 0] 3) = w3 at *
  have s3 : w3.heap.size = w.heap.size + 1 + 1 + 1 := by rw [← h3]; simp [s2]
  have c3 := Boxed.new w3 34 (.int .i64 0)
  rw [s3] at c3
  have c0 := c0.alloc (.cells #[.int .i64 0] 34)
  have c1 := c1.alloc (.cells #[.int .i64 0] 34)
  have c2 := c2.alloc (.cells #[.int .i64 0] 34)
  have l4 := l3.alloc (by omega) (.cells #[.int .i64 0] 34)
  generalize h4 : w3.alloc (.cells #[.int .i64 0] 34) = w4 at *
  have s4 : w4.heap.size = w.heap.size + 1 + 1 + 1 + 1 := by rw [← h4]; simp [s3]
  have c4 := Boxed.new w4 29 (.pointer (some ⟨B, 0, none⟩))
  rw [s4] at c4
  have c0 := c0.alloc (.cells #[.pointer (some ⟨B, 0, none⟩)] 29)
  have c1 := c1.alloc (.cells #[.pointer (some ⟨B, 0, none⟩)] 29)
  have c2 := c2.alloc (.cells #[.pointer (some ⟨B, 0, none⟩)] 29)
  have c3 := c3.alloc (.cells #[.pointer (some ⟨B, 0, none⟩)] 29)
  have l5 := l4.alloc (by omega) (.cells #[.pointer (some ⟨B, 0, none⟩)] 29)
  generalize h5 : w4.alloc (.cells #[.pointer (some ⟨B, 0, none⟩)] 29) = w5 at *
  have s5 : w5.heap.size = w.heap.size + 1 + 1 + 1 + 1 + 1 := by rw [← h5]; simp [s4]
  have c5 := Boxed.new w5 3 (.int .i64 (-1))
  rw [s5] at c5
  exact ⟨by simp [s5], c0.alloc _, c1.alloc _, c2.alloc _, c3.alloc _, c4.alloc _, c5, l5.alloc (by omega) _⟩

/-- Ahead of the round. -/
structure AllocI (B Fb : Nat) (S : List Fr) (o : Int) (w W0 : World) (pre : List (Fin S.length)) (W : World) : Prop where
  nil : pre = []
  ph : PhM W B Fb S
  b0 : Boxed W w.heap.size 29 (.pointer (some ⟨B, 0, none⟩))
  b1 : Boxed W (w.heap.size + 1) 3 (.int .i64 o)
  b2 : Boxed W (w.heap.size + 1 + 1) 3 (.int .i64 0)
  b3 : Boxed W (w.heap.size + 1 + 1 + 1) 34 (.int .i64 0)
  below : Below w.heap.size W0 W

/-- Behind it. -/
def AllocX (B Fb : Nat) (S : List Fr) (o : Int) (w W0 : World) (c : Code) (pre : List (Fin S.length)) (W : World) : Prop :=
  c = .ret ∧ ∃ (x : Fin S.length) (f : Fr), S[x.1]? = some f ∧ pre = [x] ∧ PhM W B Fb (S.set x.1 { f with owner := o }) ∧ Boxed W (w.heap.size + 1 + 1) 3 (.int .i64 (x.1 : Nat)) ∧ Boxed W (w.heap.size + 1 + 1 + 1) 34 (.int .i64 0) ∧ Mod (fun k => k = Fb ∨ w.heap.size ≤ k) W0 W

theorem mod_row {X Y : World} {row : Option Nat} (hg : X.grownBy Y row) : Mod (fun k => some k = row) X Y := ⟨hg.os, hg.tape, hg.output, hg.size, fun k hk hn => hg.block k hk hn⟩

theorem allocI_own {B Fb : Nat} {S : List Fr} {o : Int} {w W0 : World} (h6 : w.heap.size + 6 ≤ W0.heap.size) (hB : B < w.heap.size) (hF : Fb < w.heap.size) :
    OwnFrom W0.heap.size (fun pre W => AllocI B Fb S o w W0 pre W) := by
  intro s X Y row hs hg hr
  have ne : ∀ k, k < w.heap.size + 6 → ¬ some k = row := fun k hk e => by have := (hr k e.symm).1; omega
  exact ⟨hs.nil, hs.ph.kept (mod_row hg) (ne _ (by omega)) (ne _ (by omega)), hs.b0.kept hg (ne _ (by omega)), hs.b1.kept hg (ne _ (by omega)), hs.b2.kept hg (ne _ (by omega)), hs.b3.kept hg (ne _ (by omega)),
    hs.below.grown hg (by have := hs.below.size; omega) (fun k e => by have := (hr k e).1; omega)⟩

theorem allocX_own {B Fb : Nat} {S : List Fr} {o : Int} {w W0 : World} (h6 : w.heap.size + 6 ≤ W0.heap.size) (hB : B < w.heap.size) (hF : Fb < w.heap.size) (c : Code) :
    OwnFrom W0.heap.size (fun pre W => AllocX B Fb S o w W0 c pre W) := by
  rintro s X Y row ⟨hc, x, f, hf, hs, hP, b2, b3, hm⟩ hg hr
  have ne : ∀ k, k < w.heap.size + 6 → ¬ some k = row := fun k hk e => by have := (hr k e.symm).1; omega
  exact ⟨hc, x, f, hf, hs, hP.kept (mod_row hg) (ne _ (by omega)) (ne _ (by omega)), b2.kept hg (ne _ (by omega)), b3.kept hg (ne _ (by omega)),
    hm.step (mod_row hg) (fun k hk e => by have := (hr k e.symm).1; omega)⟩

theorem boxed_off {W : World} {b : Nat} {t : TypeId} {v : Value} (h : Boxed W b t v) {p : Addr} (hp : b ≠ p.block) (u : Value) : Boxed (W.setCell p u) b t v := blk_setCell h hp u

theorem allocX_mk {B Fb : Nat} {S : List Fr} {o : Int} {w W0 W : World} (hB : B < w.heap.size) (hF : Fb < w.heap.size) (x : Fin S.length) (f : Fr) (hf : S[x.1]? = some f) (hP : PhM W B Fb S)
    (b2 : Boxed W (w.heap.size + 1 + 1) 3 (.int .i64 0)) (b3 : Boxed W (w.heap.size + 1 + 1 + 1) 34 (.int .i64 0)) (hb : Below w.heap.size W0 W) :
    ∀ W', W' = (((W.setCell ⟨Fb, x.1 * 260, none⟩ (.int .i64 o)).setCell ⟨w.heap.size + 1 + 1, 0, none⟩ (.int .i64 (x.1 : Nat))).setCell ⟨w.heap.size + 1 + 1 + 1, 0, none⟩ (.int .i64 0)).drew →
      KeepsOthers W W' ∧ AllocX B Fb S o w W0 .ret [x] W' := by
  rintro W' rfl
  have hfo := hP.ok f (List.mem_of_getElem? hf)
  refine ⟨(((KeepsOthers.setCell _ _ _).trans (KeepsOthers.setCell _ _ _)).trans (KeepsOthers.setCell _ _ _)).trans (KeepsOthers.drew _), rfl, x, f, hf, rfl, ?_, ?_, ?_, ?_⟩
  · have s1 := hP.set (f' := { f with owner := o }) hf hfo 0 (by omega) (v := .int .i64 o) rfl
    have s2 := s1.kept (P := fun k => w.heap.size ≤ k) ((Mod.refl _ _).setCell (p := ⟨w.heap.size + 1 + 1, 0, none⟩) (fun _ => by show w.heap.size ≤ w.heap.size + 1 + 1; omega) (.int .i64 (x.1 : Nat))) (by omega) (by omega)
    have s3 := s2.kept (P := fun k => w.heap.size ≤ k) ((Mod.refl _ _).setCell (p := ⟨w.heap.size + 1 + 1 + 1, 0, none⟩) (fun _ => by show w.heap.size ≤ w.heap.size + 1 + 1 + 1; omega) (.int .i64 0)) (by omega) (by omega)
    exact s3.kept ((Mod.refl No _).drew) (fun p => p) (fun p => p)
  · have c1 := (boxed_off b2 (p := ⟨Fb, x.1 * 260, none⟩) (by show w.heap.size + 1 + 1 ≠ Fb; omega) (.int .i64 o)).set (.int .i64 (x.1 : Nat))
    exact boxed_off c1 (p := ⟨w.heap.size + 1 + 1 + 1, 0, none⟩) (by show w.heap.size + 1 + 1 ≠ w.heap.size + 1 + 1 + 1; omega) _
  · have c1 := boxed_off (boxed_off b3 (p := ⟨Fb, x.1 * 260, none⟩) (by show w.heap.size + 1 + 1 + 1 ≠ Fb; omega) (.int .i64 o)) (p := ⟨w.heap.size + 1 + 1, 0, none⟩) (by show w.heap.size + 1 + 1 + 1 ≠ w.heap.size + 1 + 1; omega) (.int .i64 (x.1 : Nat))
    exact c1.set (.int .i64 0)
  · refine (((?_ : Mod (fun k => k = Fb ∨ w.heap.size ≤ k) W0 W).setCell (fun _ => .inl rfl) _).setCell (fun _ => .inr (by show w.heap.size ≤ w.heap.size + 1 + 1; omega)) _).setCell (fun _ => .inr (by show w.heap.size ≤ w.heap.size + 1 + 1 + 1; omega)) _ |>.drew
    exact ⟨hb.os, hb.tape, hb.output, hb.size, fun k _ hn => hb.block k (by simp at hn; omega)⟩

attribute [local go_sem] Oper.semAt_some

/-- What a call answers. -/
def AllocPost (B Fb : Nat) (S : List Fr) (o : Int) (w : World) (e : Ending) (w' : World) : Prop :=
  (idxs S (-1) S.length = [] ∧ e = .returned (.tuple #[.int .i64 0, .int .i64 10]) ∧ Mod No w w') ∨
  (∃ (k : Nat) (f : Fr), S[k]? = some f ∧ [(k : Int)] <+: idxs S (-1) S.length ∧ e = .returned (.tuple #[.int .i64 k, .int .i64 0]) ∧ Mod (One Fb) w w' ∧ PhM w' B Fb (S.set k { f with owner := o }))

theorem alloc_end_none {B Fb : Nat} {S : List Fr} {o : Int} {w W0 W : World} {D : Nat} (hB0 : Below w.heap.size w W0) (hD : W0.heap.size ≤ D) (h6 : w.heap.size + 6 = W0.heap.size)
    (hys : [] = idxF S (-1) S.length) (b2 : Boxed W (w.heap.size + 1 + 1) 3 (.int .i64 0)) (b3 : Boxed W (w.heap.size + 1 + 1 + 1) 34 (.int .i64 0)) (hb : Below w.heap.size W0 W)
    (hK : W.heap[D]? = some (.deferred (some []))) :
    ∀ W', W' = (W.setCell ⟨w.heap.size + 1 + 1, 0, none⟩ (.int .i64 0)).setCell ⟨w.heap.size + 1 + 1 + 1, 0, none⟩ (.int .i64 10) →
      W'.heap[D]? = some (.deferred (some [])) ∧ (W'.putObj D (.deferred none)).cell? ⟨w.heap.size + 1 + 1, 0, none⟩ = some (.int .i64 0) ∧ (W'.putObj D (.deferred none)).cell? ⟨w.heap.size + 1 + 1 + 1, 0, none⟩ = some (.int .i64 10) ∧
      AllocPost B Fb S o w (.returned (.tuple #[.int .i64 0, .int .i64 10])) (W'.putObj D (.deferred none)) := by
  rintro W' rfl
  have c2 := boxed_off (b2.set (.int .i64 0)) (p := ⟨w.heap.size + 1 + 1 + 1, 0, none⟩) (by show w.heap.size + 1 + 1 ≠ w.heap.size + 1 + 1 + 1; omega) (.int .i64 10)
  have c3 := (boxed_off b3 (p := ⟨w.heap.size + 1 + 1, 0, none⟩) (by show w.heap.size + 1 + 1 + 1 ≠ w.heap.size + 1 + 1; omega) (.int .i64 0)).set (.int .i64 10)
  have hb2 := (hb.setCell (p := ⟨w.heap.size + 1 + 1, 0, none⟩) (by show w.heap.size ≤ w.heap.size + 1 + 1; omega) (.int .i64 0)).setCell (p := ⟨w.heap.size + 1 + 1 + 1, 0, none⟩) (by show w.heap.size ≤ w.heap.size + 1 + 1 + 1; omega) (.int .i64 10)
  have hK2 := blk_setCell (blk_setCell hK (p := ⟨w.heap.size + 1 + 1, 0, none⟩) (by show D ≠ w.heap.size + 1 + 1; omega) (.int .i64 0)) (p := ⟨w.heap.size + 1 + 1 + 1, 0, none⟩) (by show D ≠ w.heap.size + 1 + 1 + 1; omega) (.int .i64 10)
  have hg := grownBy_putObj' ((W.setCell ⟨w.heap.size + 1 + 1, 0, none⟩ (.int .i64 0)).setCell ⟨w.heap.size + 1 + 1 + 1, 0, none⟩ (.int .i64 10)) D (.deferred none)
  refine ⟨hK2, (c2.kept hg (by simp; omega)).cell, (c3.kept hg (by simp; omega)).cell, .inl ⟨?_, rfl, ?_⟩⟩
  · rw [← idxF_map S (-1) S.length (Nat.le_refl _), ← hys]; rfl
  · exact Mod.of_below (hB0.trans (hb2.grown hg (by have := hb2.size; omega) (fun k e => by cases e; omega)))

theorem alloc_end_some {B Fb : Nat} {S : List Fr} {o : Int} {w W0 W : World} {D : Nat} (hB : B < w.heap.size) (hF : Fb < w.heap.size) (hB0 : Below w.heap.size w W0) (hD : W0.heap.size ≤ D) (h6 : w.heap.size + 6 = W0.heap.size)
    {pre : List (Fin S.length)} (hpre : pre <+: idxF S (-1) S.length) {x : Fin S.length} {f : Fr} (hf : S[x.1]? = some f) (hx : pre = [x]) (hP : PhM W B Fb (S.set x.1 { f with owner := o }))
    (b2 : Boxed W (w.heap.size + 1 + 1) 3 (.int .i64 (x.1 : Nat))) (b3 : Boxed W (w.heap.size + 1 + 1 + 1) 34 (.int .i64 0)) (hm : Mod (fun k => k = Fb ∨ w.heap.size ≤ k) W0 W)
    (_hK : W.heap[D]? = some (.deferred (some []))) :
      (W.putObj D (.deferred none)).cell? ⟨w.heap.size + 1 + 1, 0, none⟩ = some (.int .i64 (x.1 : Nat)) ∧ (W.putObj D (.deferred none)).cell? ⟨w.heap.size + 1 + 1 + 1, 0, none⟩ = some (.int .i64 0) ∧
      AllocPost B Fb S o w (.returned (.tuple #[.int .i64 (x.1 : Nat), .int .i64 0])) (W.putObj D (.deferred none)) := by
  have hg := grownBy_putObj' W D (.deferred none)
  refine ⟨(b2.kept hg (by simp; omega)).cell, (b3.kept hg (by simp; omega)).cell, .inr ⟨x.1, f, hf, ?_, rfl, ?_, ?_⟩⟩
  · rw [← idxF_map S (-1) S.length (Nat.le_refl _)]
    obtain ⟨r, hr⟩ := hpre
    rw [← hr, hx]
    exact ⟨r.map (fun i => ((i.1 : Nat) : Int)), by simp⟩
  · refine ((Mod.of_below (P := One Fb) hB0).step hm ?_).step (mod_row hg) ?_
    · intro i hi q
      rcases q with q | q
      · exact q
      · omega
    · intro i hi q
      have : i = D := by simpa using q
      omega
  · exact hP.kept (mod_row hg) (by simp; omega) (by simp; omega)

set_option maxHeartbeats 2000000 in
theorem alloc_dom {B Fb : Nat} {S : List Fr} (o : Int) (w : World) (h : PhM w B Fb S) (hoo : 0 ≤ o ∧ o < 8) :
    Calls Tryd.prog 33 #[.pointer (some ⟨B, 0, none⟩), .int .i64 o] w fun e w' => AllocPost B Fb S o w e w' := by
  refine (callsIn_wide (n := 6)).1 ?_
  have hlen := h.len
  have hB := h.ltB
  have hF := h.ltF
  have h0 := ((((h.alloc (.cells #[.pointer (some ⟨B, 0, none⟩)] 29)).alloc (.cells #[.int .i64 o] 3)).alloc (.cells #[.int .i64 0] 3)).alloc (.cells #[.int .i64 0] 34)).made
  refine callsIn_of_wp_marks Tryd.func33 rfl trivial ?_ rfl
  simp only [Tryd.ntmps33, List.size_toArray, List.length_cons, List.length_nil, Nat.reduceAdd, Nat.reduceSub, Array.replicate_succ, Array.replicate_zero, List.push_toArray, List.append_toArray, List.nil_append, List.cons_append]
  gi_wp2_with (first
    | (refine ⟨trivial, ?_⟩; gi_at_call 54; refine (callsIn_wide.2 (none_made B _ h0)).mono ?_; rintro e w' ⟨rfl, rfl⟩)
    | (refine ⟨trivial, ?_⟩; gi_at_call 55; refine (callsIn_wide.2 (domain_yes o _ hoo.1 hoo.2)).mono ?_; rintro e w' ⟨rfl, rfl⟩)
    | (refine ⟨trivial, ?_⟩; gi_at_call 56; refine (callsIn_wide.2 (of_any _ _ _)).mono ?_; rintro e w' ⟨rfl, rfl⟩))
  obtain ⟨W0, hW0⟩ : ∃ W0, ((((((w.alloc (.cells #[.pointer (some ⟨B, 0, none⟩)] 29)).alloc (.cells #[.int .i64 o] 3)).alloc (.cells #[.int .i64 0] 3)).alloc (.cells #[.int .i64 0] 34)).alloc
    (.cells #[.pointer (some ⟨B, 0, none⟩)] 29)).alloc (.cells #[.int .i64 (-1)] 3)) = W0 := ⟨_, rfl⟩
  have A := alloc_boxes B o w hW0
  have hP : PhM W0 B Fb S := by rw [← hW0]; exact (((((h.alloc _).alloc _).alloc _).alloc _).alloc _).alloc _
  rw [hW0]
  clear hW0
  refine wpIn_rangeFunc_ownG rfl (by omega) (gf := 68) (lb := #[.pointer (some ⟨w.heap.size + 1 + 1 + 1 + 1, 0, none⟩), .pointer (some ⟨w.heap.size + 1 + 1 + 1 + 1 + 1, 0, none⟩)]) rfl trivial (enters_of Tryd.func68 (by kernel_rfl) rfl)
    (of1_stops (6 - 1) (by omega) (w.heap.size + 1 + 1 + 1 + 1) (w.heap.size + 1 + 1 + 1 + 1 + 1) B Fb S (-1) W0 hP A.b4 A.b5) KeepB.trans (KeepB.putObj (by intro b hb; have := A.sz; simp at hb; omega)) (Below.refl _ _) (fun _ => rfl)
    (fun pre W => AllocI B Fb S o w W0 pre W)
    (fun c pre W => AllocX B Fb S o w W0 c pre W)
    (allocI_own (by have := A.sz; omega) hB hF) (allocX_own (by have := A.sz; omega) hB hF)
    ⟨rfl, hP, A.b0, A.b1, A.b2, A.b3, Below.refl _ _⟩
    (fun x => { tmps := #[.pointer (some ⟨B, 0, none⟩), .int .i64 o, .pointer (some ⟨w.heap.size, 0, none⟩), .pointer (some ⟨w.heap.size + 1, 0, none⟩), .pointer (some ⟨w.heap.size + 1 + 1, 0, none⟩), .pointer (some ⟨w.heap.size + 1 + 1 + 1, 0, none⟩),
      .int .i64 (x.1 : Nat), .bool false, .pointer (some ⟨B, 0, none⟩), .bool false, .bool false, .int .i64 o, .bool true, .bool false, .bool false, undef, undef, .bool false, .pointer (some ⟨B, 0, none⟩),
      .func (.func 68) #[] #[.pointer (some ⟨w.heap.size + 1 + 1 + 1 + 1, 0, none⟩), .pointer (some ⟨w.heap.size + 1 + 1 + 1 + 1 + 1, 0, none⟩)], .int .i64 (x.1 : Nat), undef, undef, undef, undef, undef, undef, undef, undef, undef, undef], defers := [] }) ?_ ?_ ?_ ?_
  · intro l x W K hK
    gi_wp2
    exact hK
  · rintro l pre x W ⟨rfl, hPW, e0, e1, e2, e3, hBw⟩ hlt
    obtain ⟨f, hf⟩ : ∃ f, S[x.1]? = some f := ⟨S[x.1], by simp⟩
    obtain ⟨c, hc, hfr⟩ := hPW.frames
    have k0 := e0.cell
    have k1 := e1.cell
    have k2 := e2.cell
    have k3 := e3.cell
    have z2 := e2.frozen
    have z3 := e3.frozen
    have hcl : W.cell? ⟨Fb, x.1 * 260, none⟩ = some (.int .i64 f.owner) := hPW.cell hf 0 (by omega)
    have hfz := hPW.free (x.1 * 260)
    have hx : x.1 < S.length := x.2
    have n2 : (⟨Fb, x.1 * 260, none⟩ : Addr) ≠ ⟨w.heap.size + 1 + 1, 0, none⟩ := by intro e; injection e with e1 e2; omega
    have n3 : (⟨Fb, x.1 * 260, none⟩ : Addr) ≠ ⟨w.heap.size + 1 + 1 + 1, 0, none⟩ := by intro e; injection e with e1 e2; omega
    have FIN := Lib.hid (allocX_mk (w := w) (W0 := W0) (o := o) hB hF x f hf hPW e2 e3 hBw)
    have m2 : (W.drew.setCell ⟨Fb, x.1 * 260, none⟩ (.int .i64 o)).cell? ⟨w.heap.size + 1 + 1, 0, none⟩ = some (.int .i64 0) := by rw [World.cell?_setCell_other _ _ _ _ n2]; exact k2
    gi_wp2
    gi_region_with (fail)
    all_goals gi_wp2
    all_goals exact ⟨(FIN.out _ rfl).1.from _, (FIN.out _ rfl).2⟩
  · rintro D ys W hD hys ⟨rfl, hPW, e0, e1, e2, e3, hBw⟩ hK
    have k2 := e2.cell
    have k3 := e3.cell
    have z2 := e2.frozen
    have z3 := e3.frozen
    obtain ⟨E1, E2, E3, E4⟩ := alloc_end_none (B := B) (Fb := Fb) (S := S) (o := o) A.below hD A.sz.symm hys e2 e3 hBw hK _ rfl
    have F1 := Lib.hid E1; have F4 := Lib.hid E4; clear E1 E4 hK
    gi_wp2
    refine ⟨by simp, .inl ⟨_, _, rfl, run_takeDeferred F1.out, ?_⟩⟩
    exact ⟨_, by simp [results, Tryd.results33, go_sem, E2, E3], F4.out⟩
  · rintro D c pre W hD hpre ⟨rfl, hX⟩ hK
    obtain ⟨x, f, hf, hx, hPx, c2, c3, hmx⟩ := hX
    obtain ⟨E2, E3, E4⟩ := alloc_end_some (o := o) hB hF A.below hD A.sz.symm hpre hf hx hPx c2 c3 hmx hK
    have F1 := Lib.hid hK; have F4 := Lib.hid E4; clear hK E4
    gi_wp2
    refine ⟨by simp, .inl ⟨_, _, rfl, run_takeDeferred F1.out, ?_⟩⟩
    exact ⟨_, by simp [results, Tryd.results33, go_sem, E2, E3], F4.out⟩

end Go.Proofs.YtmdeljacbekbpaaDoor

/- phys.Machine: Alloc for the hypervisor. -/
namespace Go.Proofs.YtmdeljacbekbpaaDoor
open Go.RowKit Go.Shelf
set_option maxRecDepth 100000

attribute [local go_sem] Oper.semAt_some

set_option maxHeartbeats 2000000 in
theorem alloc_hyp {B Fb : Nat} {S : List Fr} (w : World) (h : PhM w B Fb S) :
    Calls Tryd.prog 33 #[.pointer (some ⟨B, 0, none⟩), .int .i64 (-2)] w fun e w' => AllocPost B Fb S (-2) w e w' := by
  refine (callsIn_wide (n := 6)).1 ?_
  have hlen := h.len
  have hB := h.ltB
  have hF := h.ltF
  have h0 := ((((h.alloc (.cells #[.pointer (some ⟨B, 0, none⟩)] 29)).alloc (.cells #[.int .i64 (-2)] 3)).alloc (.cells #[.int .i64 0] 3)).alloc (.cells #[.int .i64 0] 34)).made
  refine callsIn_of_wp_marks Tryd.func33 rfl trivial ?_ rfl
  simp only [Tryd.ntmps33, List.size_toArray, List.length_cons, List.length_nil, Nat.reduceAdd, Nat.reduceSub, Array.replicate_succ, Array.replicate_zero, List.push_toArray, List.append_toArray, List.nil_append, List.cons_append]
  gi_wp2_with (first
    | (refine ⟨trivial, ?_⟩; gi_at_call 54; refine (callsIn_wide.2 (none_made B _ h0)).mono ?_; rintro e w' ⟨rfl, rfl⟩)
    | (refine ⟨trivial, ?_⟩; gi_at_call 55; refine (callsIn_wide.2 (domain_no (-2) _ (by omega))).mono ?_; rintro e w' ⟨rfl, rfl⟩)
    | (refine ⟨trivial, ?_⟩; gi_at_call 56; refine (callsIn_wide.2 (of_any _ _ _)).mono ?_; rintro e w' ⟨rfl, rfl⟩))
  obtain ⟨W0, hW0⟩ : ∃ W0, ((((((w.alloc (.cells #[.pointer (some ⟨B, 0, none⟩)] 29)).alloc (.cells #[.int .i64 (-2)] 3)).alloc (.cells #[.int .i64 0] 3)).alloc (.cells #[.int .i64 0] 34)).alloc
    (.cells #[.pointer (some ⟨B, 0, none⟩)] 29)).alloc (.cells #[.int .i64 (-1)] 3)) = W0 := ⟨_, rfl⟩
  have A := alloc_boxes B (-2) w hW0
  have hP : PhM W0 B Fb S := by rw [← hW0]; exact (((((h.alloc _).alloc _).alloc _).alloc _).alloc _).alloc _
  rw [hW0]
  clear hW0
  refine wpIn_rangeFunc_ownG rfl (by omega) (gf := 68) (lb := #[.pointer (some ⟨w.heap.size + 1 + 1 + 1 + 1, 0, none⟩), .pointer (some ⟨w.heap.size + 1 + 1 + 1 + 1 + 1, 0, none⟩)]) rfl trivial (enters_of Tryd.func68 (by kernel_rfl) rfl)
    (of1_stops (6 - 1) (by omega) (w.heap.size + 1 + 1 + 1 + 1) (w.heap.size + 1 + 1 + 1 + 1 + 1) B Fb S (-1) W0 hP A.b4 A.b5) KeepB.trans (KeepB.putObj (by intro b hb; have := A.sz; simp at hb; omega)) (Below.refl _ _) (fun _ => rfl)
    (fun pre W => AllocI B Fb S (-2) w W0 pre W)
    (fun c pre W => AllocX B Fb S (-2) w W0 c pre W)
    (allocI_own (by have := A.sz; omega) hB hF) (allocX_own (by have := A.sz; omega) hB hF)
    ⟨rfl, hP, A.b0, A.b1, A.b2, A.b3, Below.refl _ _⟩
    (fun x => { tmps := #[.pointer (some ⟨B, 0, none⟩), .int .i64 (-2), .pointer (some ⟨w.heap.size, 0, none⟩), .pointer (some ⟨w.heap.size + 1, 0, none⟩), .pointer (some ⟨w.heap.size + 1 + 1, 0, none⟩), .pointer (some ⟨w.heap.size + 1 + 1 + 1, 0, none⟩),
      .int .i64 (x.1 : Nat), .bool false, .pointer (some ⟨B, 0, none⟩), .bool false, .bool false, .int .i64 (-2), .bool false, .bool true, .bool true, .int .i64 (-2), .bool false, .bool false, .pointer (some ⟨B, 0, none⟩),
      .func (.func 68) #[] #[.pointer (some ⟨w.heap.size + 1 + 1 + 1 + 1, 0, none⟩), .pointer (some ⟨w.heap.size + 1 + 1 + 1 + 1 + 1, 0, none⟩)], .int .i64 (x.1 : Nat), undef, undef, undef, undef, undef, undef, undef, undef, undef, undef], defers := [] }) ?_ ?_ ?_ ?_
  · intro l x W K hK
    gi_wp2
    exact hK
  · rintro l pre x W ⟨rfl, hPW, e0, e1, e2, e3, hBw⟩ hlt
    obtain ⟨f, hf⟩ : ∃ f, S[x.1]? = some f := ⟨S[x.1], by simp⟩
    obtain ⟨c, hc, hfr⟩ := hPW.frames
    have k0 := e0.cell
    have k1 := e1.cell
    have k2 := e2.cell
    have k3 := e3.cell
    have z2 := e2.frozen
    have z3 := e3.frozen
    have hcl : W.cell? ⟨Fb, x.1 * 260, none⟩ = some (.int .i64 f.owner) := hPW.cell hf 0 (by omega)
    have hfz := hPW.free (x.1 * 260)
    have hx : x.1 < S.length := x.2
    have n2 : (⟨Fb, x.1 * 260, none⟩ : Addr) ≠ ⟨w.heap.size + 1 + 1, 0, none⟩ := by intro e; injection e with e1 e2; omega
    have n3 : (⟨Fb, x.1 * 260, none⟩ : Addr) ≠ ⟨w.heap.size + 1 + 1 + 1, 0, none⟩ := by intro e; injection e with e1 e2; omega
    have FIN := Lib.hid (allocX_mk (w := w) (W0 := W0) (o := (-2)) hB hF x f hf hPW e2 e3 hBw)
    have m2 : (W.drew.setCell ⟨Fb, x.1 * 260, none⟩ (.int .i64 (-2))).cell? ⟨w.heap.size + 1 + 1, 0, none⟩ = some (.int .i64 0) := by rw [World.cell?_setCell_other _ _ _ _ n2]; exact k2
    gi_wp2
    gi_region_with (fail)
    all_goals gi_wp2
    all_goals exact ⟨(FIN.out _ rfl).1.from _, (FIN.out _ rfl).2⟩
  · rintro D ys W hD hys ⟨rfl, hPW, e0, e1, e2, e3, hBw⟩ hK
    have k2 := e2.cell
    have k3 := e3.cell
    have z2 := e2.frozen
    have z3 := e3.frozen
    obtain ⟨E1, E2, E3, E4⟩ := alloc_end_none (B := B) (Fb := Fb) (S := S) (o := (-2)) A.below hD A.sz.symm hys e2 e3 hBw hK _ rfl
    have F1 := Lib.hid E1; have F4 := Lib.hid E4; clear E1 E4 hK
    gi_wp2
    refine ⟨by simp, .inl ⟨_, _, rfl, run_takeDeferred F1.out, ?_⟩⟩
    exact ⟨_, by simp [results, Tryd.results33, go_sem, E2, E3], F4.out⟩
  · rintro D c pre W hD hpre ⟨rfl, hX⟩ hK
    obtain ⟨x, f, hf, hx, hPx, c2, c3, hmx⟩ := hX
    obtain ⟨E2, E3, E4⟩ := alloc_end_some (o := (-2)) hB hF A.below hD A.sz.symm hpre hf hx hPx c2 c3 hmx hK
    have F1 := Lib.hid hK; have F4 := Lib.hid E4; clear hK E4
    gi_wp2
    refine ⟨by simp, .inl ⟨_, _, rfl, run_takeDeferred F1.out, ?_⟩⟩
    exact ⟨_, by simp [results, Tryd.results33, go_sem, E2, E3], F4.out⟩

end Go.Proofs.YtmdeljacbekbpaaDoor

/- phys.Machine: Alloc where it is known which frame is the least free one; bytes as a text. -/
namespace Go.Proofs.YtmdeljacbekbpaaDoor
open Go.RowKit
set_option maxRecDepth 100000

theorem alloc_some {B F : Nat} {S : List Fr} (o : Int) (w : World) (h : PhM w B F S) (ho : (0 ≤ o ∧ o < 8) ∨ o = -2) {k : Nat} {f : Fr} {r : List Int} (hk : idxs S (-1) S.length = (k : Int) :: r) (hf : S[k]? = some f) :
    Calls Tryd.prog 33 #[.pointer (some ⟨B, 0, none⟩), .int .i64 o] w fun e w' =>
      e = .returned (.tuple #[.int .i64 k, .int .i64 0]) ∧ Mod (One F) w w' ∧ PhM w' B F (S.set k { f with owner := o }) := by
  have main : ∀ e w', AllocPost B F S o w e w' → e = .returned (.tuple #[.int .i64 k, .int .i64 0]) ∧ Mod (One F) w w' ∧ PhM w' B F (S.set k { f with owner := o }) := by
    rintro e w' (⟨h1, _⟩ | ⟨k', f', hf', ⟨q, hq⟩, he, hm, hP⟩)
    · rw [hk] at h1; cases h1
    · rw [hk] at hq
      have : k' = k := by
        have := (List.cons.inj hq).1
        omega
      subst this
      rw [hf] at hf'
      cases hf'
      exact ⟨he, hm, hP⟩
  rcases ho with ho | rfl
  · exact (alloc_dom o w h ho).mono main
  · exact (alloc_hyp w h).mono main

theorem alloc_full {B F : Nat} {S : List Fr} (o : Int) (w : World) (h : PhM w B F S) (ho : (0 ≤ o ∧ o < 8) ∨ o = -2) (hk : idxs S (-1) S.length = []) :
    Calls Tryd.prog 33 #[.pointer (some ⟨B, 0, none⟩), .int .i64 o] w fun e w' => e = .returned (.tuple #[.int .i64 0, .int .i64 10]) ∧ Mod No w w' := by
  have main : ∀ e w', AllocPost B F S o w e w' → e = .returned (.tuple #[.int .i64 0, .int .i64 10]) ∧ Mod No w w' := by
    rintro e w' (⟨_, h2, h3⟩ | ⟨k', f', hf', ⟨q, hq⟩, he, hm, hP⟩)
    · exact ⟨h2, h3⟩
    · rw [hk] at hq; cases hq
  rcases ho with ho | rfl
  · exact (alloc_dom o w h ho).mono main
  · exact (alloc_hyp w h).mono main

theorem Src.kept {P : Nat → Prop} {w w' : World} {p : Option Addr} {bs : List Int} (h : Src w p bs) (hm : Mod P w w') (hp : ∀ ad, p = some ad → ad.block < w.heap.size → ¬ P ad.block) : Src w' p bs := by
  refine ⟨h.range, fun h0 => ?_⟩
  obtain ⟨ad, rfl, hc⟩ := h.cells h0
  have add_block : ∀ j, (ad.add j).block = ad.block := by intro j; unfold Addr.add; split <;> rfl
  refine ⟨ad, rfl, fun j b hj => ?_⟩
  have h1 := hc j b hj
  have hlt := World.block_lt_of_cell? w _ h1
  rw [add_block] at hlt
  exact (World.cell?_of_block (w := w) (by rw [add_block]; exact hm.block _ hlt (hp ad rfl hlt))).trans h1

/-- A row of bytes that is the call's own, as a source. -/
theorem Src.row {w : World} {g : Nat} {bs : List Int} {t : TypeId} (hg : w.heap[g]? = some (.cells (bs.map (Value.int .u8)).toArray t (0, 0))) (hr : ∀ b ∈ bs, 0 ≤ b ∧ b ≤ 255) : Src w (some ⟨g, 0, none⟩) bs := by
  refine ⟨hr, fun _ => ⟨_, rfl, fun j b hj => ?_⟩⟩
  rw [Addr.add_lit, Nat.zero_add, row_cell hg]
  simp [hj]

/-- The conversion of a row of bytes to a text, in every world that has the row. -/
theorem conv_row {w : World} {g : Nat} {bs : List Int} {t : TypeId} (hg : w.heap[g]? = some (.cells (bs.map (Value.int .u8)).toArray t (0, 0))) (off n c : Nat) (xs : List Int) (hx : xs = (bs.drop off).take n) (hn : off + n ≤ bs.length) :
    (convert 22 9 (.slice (some ⟨g, off, none⟩) n c)).run Tryd.prog w = .ok (.string (strOfNums xs)) w := by
  have hl : xs.length = n := by rw [hx]; simp; omega
  refine run_convert_bytes_arg w 22 5 Tryd.underlying22 Tryd.underlying5 g off n c xs hl (fun i hi => ?_) 9 Tryd.underlying9
  rw [row_cell hg, List.getElem?_map]
  have h1 : xs[i]? = bs[off + i]? := by rw [hx, List.getElem?_take_of_lt hi, List.getElem?_drop]
  rw [← h1, List.getD_eq_getElem?_getD]
  rw [List.getElem?_eq_getElem (by omega)]
  rfl

end Go.Proofs.YtmdeljacbekbpaaDoor
