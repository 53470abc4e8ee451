/- phys.Machine: Owned, Left, Alloc. -/
import Derived.Test.YthfkpbfapkpnfabPhysOf
import Derived.Test.YthfkpbfapkpnfabPhysFree
namespace Go.Proofs.Ythfkpbfapkpnfab
open Go.RowKit Go.Shelf
set_option maxRecDepth 100000

attribute [local go_sem] Oper.semAt_some

theorem of1_stops (n : Nat) (hn : 3 ≤ n) (Bm Bo B Fb : Nat) (S : List Fr) (o : Int) (w : World) (h : PhM w B Fb S)
    (hm : w.heap[Bm]? = some (.cells #[.pointer (some ⟨B, 0, none⟩)] 22 (0, 0))) (ho : w.heap[Bo]? = some (.cells #[.int .i64 o] 3 (0, 0))) :
    SeqStopsK Fence.wide n Try.prog 97 #[.pointer (some ⟨Bm, 0, none⟩), .pointer (some ⟨Bo, 0, none⟩)] (fun x : Fin S.length => #[Value.int .i64 (x.1 : Nat)]) (KeepB [B, Fb, Bm, Bo])
      (fun ys => ys = idxF S o S.length) (fun pre => pre <+: idxF S o S.length) (idxF S o S.length).length w := fun l J Jx W hW hJ _ hY h0 => by
  refine of1_in n hn l Bm Bo B Fb S o J Jx hY (fun pre W1 m hj => hJ pre W1 _ none hj ⟨rfl, rfl, rfl, Nat.le_refl _, fun _ _ _ => rfl⟩ (fun r e => by cases e)) W (h.kept (Mod.of_below (P := No) hW) (fun p => p) (fun p => p)) ?_ ?_ h0
  · exact (hW.block Bm (lt_of_blk hm)).trans hm
  · exact (hW.block Bo (lt_of_blk ho)).trans ho

theorem ownsRow_base {W : World} {a b : Nat} {e : TypeId} {size : Nat} {v : Value} {k : Nat} {xs : List Value} (h : W.ownsRow a e size v k xs) (hb : b ≤ a) : W.ownsRow b e size v k xs := by
  refine ⟨h.1, ?_⟩
  rcases h.2 with h2 | ⟨g, cap, cur, hv, hg, r⟩
  · exact .inl h2
  · exact .inr ⟨g, cap, cur, hv, Nat.le_trans hb hg, r⟩

theorem owns_slice {W : World} {b : Nat} {e : TypeId} {size : Nat} {v : Value} {k : Nat} {xs : List Value} (h : W.ownsRow b e size v k xs) : ∃ g cap, v = .slice g k cap := by
  rcases h.2 with ⟨rfl, h0⟩ | ⟨g, cap, _, rfl, _⟩
  · exact ⟨none, 0, by rw [h0]⟩
  · exact ⟨_, _, rfl⟩

theorem boxed_appended {W w1 : World} {n₀ Bx : Nat} {t e : TypeId} {size : Nat} {v v' : Value} {k m : Nat} {xs ys : List Value} {tmp : Obj}
    (hv : Boxed W Bx t v) (hte : t ≠ e) (hrow : W.ownsRow n₀ e size v k xs) (hn₀ : n₀ ≤ W.heap.size) (hown' : w1.ownsRow n₀ e size v' m ys) (hgrow : (W.alloc tmp).grownBy w1 v.ownBlock) :
    Boxed w1 Bx t v ∧ Boxed (w1.setCell ⟨Bx, 0, none⟩ v') Bx t v' ∧ (w1.setCell ⟨Bx, 0, none⟩ v').ownsRow n₀ e size v' m ys ∧ KeepsOthers W (w1.setCell ⟨Bx, 0, none⟩ v') ∧
      ∀ b, b < n₀ → b ≠ Bx → (w1.setCell ⟨Bx, 0, none⟩ v').heap[b]? = W.heap[b]? := by
  obtain ⟨a1, a2, _, a4, _⟩ := Boxed.appended (n₀ := 0) hv hte (ownsRow_base hrow (Nat.zero_le _)) (Nat.zero_le _) (Nat.zero_le _) (ownsRow_base hown' (Nat.zero_le _)) hgrow
  refine ⟨a1, a2, hown'.kept (grownBy_setCell' w1 Bx v') (.inr (a1.not_row hte hown').symm), a4, fun b hb hne => ?_⟩
  rw [Below.heap_setCell _ _ _ _ hne, hgrow.block b (by simp; omega) (fun e => by have := (hrow.lt b e.symm).1; omega)]
  exact Below.heap_alloc _ _ _ (by omega)

theorem Try.infoInt : (Try.prog.info? 3).map (fun i => (i.zero, i.size, i.bytes)) = some (some (.int .i64 0), 1, 8) := by kernel_rfl

set_option maxHeartbeats 2000000 in
theorem owned_in {B Fb : Nat} {S : List Fr} (o : Int) (w : World) (h : PhM w B Fb S) :
    Calls Try.prog 26 #[.pointer (some ⟨B, 0, none⟩), .int .i64 o] w fun e W' => ∃ v, e = .returned v ∧
      W'.ownsRow w.heap.size 3 1 v (idxs S o S.length).length ((idxs S o S.length).map (Value.int .i64)) ∧ Below w.heap.size w W' := by
  refine (callsIn_wide (n := 6)).1 ?_
  obtain ⟨i0, hi, hz0, hz1, hz2⟩ := info_parts Try.infoInt
  have hlen := h.len
  have hB := h.ltB
  have hF := h.ltF
  refine callsIn_of_wp_marks Try.func26 rfl trivial ?_ rfl
  simp only [Try.ntmps26, List.size_toArray, List.length_cons, List.length_nil, Nat.reduceAdd, Nat.reduceSub, Array.replicate_succ, Array.replicate_zero, List.push_toArray, List.append_toArray, List.nil_append, List.cons_append]
  gi_wp2_with (refine ⟨trivial, ?_⟩; gi_at_call 65; refine (callsIn_wide.2 (of_any _ _ _)).mono ?_; rintro e w' ⟨rfl, rfl⟩)
  have bO := Boxed.new w 42 (.slice none 0 0)
  have bM := Boxed.new (w.alloc (.cells #[.slice none 0 0] 42)) 22 (.pointer (some ⟨B, 0, none⟩))
  have bA := Boxed.new ((w.alloc (.cells #[.slice none 0 0] 42)).alloc (.cells #[.pointer (some ⟨B, 0, none⟩)] 22)) 3 (.int .i64 o)
  rw [World.size_alloc] at bM bA
  rw [World.size_alloc] at bA
  have hB0 : Below w.heap.size w (((w.alloc (.cells #[.slice none 0 0] 42)).alloc (.cells #[.pointer (some ⟨B, 0, none⟩)] 22)).alloc (.cells #[.int .i64 o] 3)) :=
    (((Below.refl _ w).alloc (Nat.le_refl _) _).alloc (by simp) _).alloc (by simp; omega) _
  have hP := ((h.alloc (.cells #[.slice none 0 0] 42)).alloc (.cells #[.pointer (some ⟨B, 0, none⟩)] 22)).alloc (.cells #[.int .i64 o] 3)
  have hbO := (bO.alloc (.cells #[.pointer (some ⟨B, 0, none⟩)] 22)).alloc (.cells #[.int .i64 o] 3)
  have hbM := bM.alloc (.cells #[.int .i64 o] 3)
  have hsz : (((w.alloc (.cells #[.slice none 0 0] 42)).alloc (.cells #[.pointer (some ⟨B, 0, none⟩)] 22)).alloc (.cells #[.int .i64 o] 3)).heap.size = w.heap.size + 3 := by simp
  obtain ⟨W0, hW0⟩ : ∃ W0, (((w.alloc (.cells #[.slice none 0 0] 42)).alloc (.cells #[.pointer (some ⟨B, 0, none⟩)] 22)).alloc (.cells #[.int .i64 o] 3)) = W0 := ⟨_, rfl⟩
  rw [hW0] at hB0 hP hbO hbM bA hsz ⊢
  clear bO bM hW0
  refine wpIn_rangeFunc_ownG rfl (by omega) (gf := 97) (lb := #[.pointer (some ⟨w.heap.size + 1, 0, none⟩), .pointer (some ⟨w.heap.size + 1 + 1, 0, none⟩)]) rfl trivial (enters_of Try.func97 (by kernel_rfl) rfl)
    (of1_stops (6 - 1) (by omega) (w.heap.size + 1) (w.heap.size + 1 + 1) B Fb S o W0 hP hbM bA) KeepB.trans (KeepB.putObj (by intro b hb; simp at hb; omega)) (Below.refl _ _) (fun _ => rfl)
    (fun pre W => (∃ v, Boxed W w.heap.size 42 v ∧ W.ownsRow (w.heap.size + 3) 3 1 v pre.length (pre.map (fun i => Value.int .i64 (i.1 : Nat))) ∧ True) ∧ Below w.heap.size W0 W)
    (fun _ _ _ => False)
    (OwnFrom.and (Own.from (holdsRow_own (w.heap.size + 3) w.heap.size 42 3 1 (fun pre : List (Fin S.length) => pre.length) (fun pre => pre.map (fun i => Value.int .i64 (i.1 : Nat))) (fun _ _ => True)) _) (ownFrom_below (by omega) (by omega)))
    (fun _ _ _ _ _ hs _ _ => hs)
    ⟨⟨_, hbO, World.ownsRow_nil _ _ _ _, trivial⟩, Below.refl _ _⟩
    (fun x => { tmps := #[.pointer (some ⟨B, 0, none⟩), .int .i64 o, undef, undef, .slice none 0 0, .pointer (some ⟨w.heap.size, 0, none⟩), .int .i64 (x.1 : Nat), .pointer (some ⟨B, 0, none⟩), .int .i64 o,
        .func (.func 97) #[] #[.pointer (some ⟨w.heap.size + 1, 0, none⟩), .pointer (some ⟨w.heap.size + 1 + 1, 0, none⟩)], .int .i64 (x.1 : Nat), undef, undef, undef, undef, undef], defers := [] }) ?assign ?body ?done ?stop
  case assign =>
    intro l x W K hK
    gi_wp2
    exact hK
  case body =>
    rintro l pre x W ⟨⟨v, hv, hrow, _⟩, hBw⟩ hlt
    have hc := hv.cell
    have hpl : pre.length < 256 := by have := idxs_len S o S.length; have := idxF_len S o; omega
    have hsW : w.heap.size + 3 ≤ W.heap.size := by have := hBw.size; omega
    gi_wp2_with (gi_at_builtin; refine wpListIn_append_own _ rfl _ _ 42 rfl (w.heap.size + 3) 3 i0 (.int .i64 0) 1 8 Try.underlying42 hi hz0 hz1 hz2 rfl (by decide) _ _ _ rfl (hrow.alloc _) ⟨W.heap.size, 0, none⟩ 1 1 [.int .i64 (x.1 : Nat)] rfl rfl (cell_one_new _ _ _) (by simp [Value.oneCell']) (by unfold maxLen; omega) (by omega) (by simp; omega) ?_; intro v' w1 hown' hgrow _; obtain ⟨g', cap', rfl⟩ := ownsRow_succ hown'; obtain ⟨hv1, hv2, hr2, hk2, hb2⟩ := boxed_appended hv (by decide) hrow hsW hown' hgrow; have hc1 := hv1.cell; have hf1 := hv1.frozen)
    refine ⟨hk2.from _, ?_, ⟨_, hv2, by simpa using hr2, trivial⟩, ?_⟩
    · intro b hb
      simp at hb
      exact hb2 b (by omega) (by omega)
    · exact hBw.trans ((((Below.refl w.heap.size W).alloc (by omega) _).grown hgrow (by simp; omega) (fun j ej => by have := (hrow.lt j ej).1; omega)).setCell (p := ⟨w.heap.size, 0, none⟩) (Nat.le_refl _) _)
  case done =>
    rintro D ys W hD rfl ⟨⟨v, hv, hrow, _⟩, hBw⟩ hK
    have hc := hv.cell
    gi_wp2
    refine ⟨by simp, .inl ⟨_, _, rfl, run_takeDeferred hK, ?_⟩⟩
    have hr2 := ownsRow_base (b := w.heap.size) (ownsRow_putObj hrow (.deferred none) hK rfl) (by omega)
    rw [idxF_len, show (idxF S o S.length).map (fun i => Value.int .i64 (i.1 : Nat)) = (idxs S o S.length).map (Value.int .i64) by rw [← idxF_map S o S.length (Nat.le_refl _), List.map_map]; rfl] at hr2
    exact ⟨_, results_tmp rfl _ _ _, v, rfl, hr2, (hB0.trans hBw).trans (belowK_b (w := w) (Nat.le_refl _) W D _ _ (by omega) hK rfl rfl)⟩
  case stop =>
    rintro D c pre W _ _ h _
    exact h.elim

theorem left_in {B Fb : Nat} {S : List Fr} (w : World) (h : PhM w B Fb S) :
    Calls Try.prog 25 #[.pointer (some ⟨B, 0, none⟩)] w fun e W' => e = .returned (.int .i64 (idxs S (-1) S.length).length) ∧ Below w.heap.size w W' := by
  go_enter Try.func25, Try.ntmps25
  go_wp2_with (go_at_call 26; refine (owned_in (-1) _ h).mono ?_; rintro e w' ⟨v, rfl, hv, hb⟩; obtain ⟨g, cap, rfl⟩ := owns_slice hv)
  go_ret
  exact ⟨rfl, hb⟩

end Go.Proofs.Ythfkpbfapkpnfab
