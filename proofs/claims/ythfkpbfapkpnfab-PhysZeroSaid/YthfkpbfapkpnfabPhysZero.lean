/- phys.Machine: Owned, Left, Copy where there is no machine. -/
import Derived.Test.YthfkpbfapkpnfabPhysOwned
namespace Go.Proofs.Ythfkpbfapkpnfab
open Go.RowKit Go.Shelf
set_option maxRecDepth 100000

attribute [local go_sem] Oper.semAt_some

set_option maxHeartbeats 800000 in
theorem of1_zero (n : Nat) (hn : 3 ≤ n) (Bm Bo : Nat) (p : Option Addr) (w : World) (h : NoM w p) (hm : w.heap[Bm]? = some (.cells #[.pointer p] 22 (0, 0))) :
    SeqStopsK Fence.wide n Try.prog 97 #[.pointer (some ⟨Bm, 0, none⟩), .pointer (some ⟨Bo, 0, none⟩)] (fun x : Fin 0 => #[Value.int .i64 (x.1 : Nat)]) (KeepB [])
      (fun ys => ys = []) (fun pre => pre <+: []) 0 w := fun l J Jx W hW hJ _ hY h0 => by
  have hm' := (hW.block Bm (lt_of_blk hm)).trans hm
  have hcm := cell_of_one hm'
  have h' := h.kept (Mod.of_below (P := No) hW) (fun _ _ q => q)
  refine callsIn_of_wp Try.func97 rfl trivial ?_ rfl
  simp only [Try.ntmps97, List.size_toArray, List.length_cons, List.length_nil, Nat.reduceAdd, Nat.reduceSub, Array.replicate_succ, Array.replicate_zero, List.push_toArray, List.append_toArray, List.nil_append, List.cons_append]
  have hD1 : 1 ≤ n - 1 := by omega
  have hD0 : 1 ≤ n := by omega
  gi_wp2_with (refine ⟨trivial, ?_⟩; gi_at_call 24; refine (callsIn_wide.2 (size_none _ h')).mono ?_; rintro e w' ⟨rfl, rfl⟩)
  gi_loopw [7] (fun v wr => v = .int .i64 0 ∧ J [] wr) (fun v _ => 0)
  case atStart => exact ⟨rfl, h0⟩
  case round =>
    obtain ⟨rfl, hJ0⟩ := hrel
    gi_wp2
    go_end0
    exact ⟨⟨_, rfl⟩, .inl ⟨[], rfl, hJ0⟩⟩

set_option maxHeartbeats 800000 in
theorem owned_none {p : Option Addr} (o : Int) (w : World) (h : NoM w p) :
    Calls Try.prog 26 #[.pointer p, .int .i64 o] w fun e W' => e = .returned (.slice none 0 0) ∧ Mod No w W' := by
  refine (callsIn_wide (n := 6)).1 ?_
  refine callsIn_of_wp_marks Try.func26 rfl trivial ?_ rfl
  simp only [Try.ntmps26, List.size_toArray, List.length_cons, List.length_nil, Nat.reduceAdd, Nat.reduceSub, Array.replicate_succ, Array.replicate_zero, List.push_toArray, List.append_toArray, List.nil_append, List.cons_append]
  gi_wp2_with (refine ⟨trivial, ?_⟩; gi_at_call 65; refine (callsIn_wide.2 (of_any _ _ _)).mono ?_; rintro e w' ⟨rfl, rfl⟩)
  have bO := Boxed.new w 42 (.slice none 0 0)
  have hB0 : Below w.heap.size w (((w.alloc (.cells #[.slice none 0 0] 42)).alloc (.cells #[.pointer p] 22)).alloc (.cells #[.int .i64 o] 3)) :=
    (((Below.refl _ w).alloc (Nat.le_refl _) _).alloc (by simp) _).alloc (by simp; omega) _
  have hP := ((h.alloc (.cells #[.slice none 0 0] 42)).alloc (.cells #[.pointer p] 22)).alloc (.cells #[.int .i64 o] 3)
  have hbO := (bO.alloc (.cells #[.pointer p] 22)).alloc (.cells #[.int .i64 o] 3)
  have hbM := (Boxed.new (w.alloc (.cells #[.slice none 0 0] 42)) 22 (.pointer p)).alloc (.cells #[.int .i64 o] 3)
  rw [World.size_alloc] at hbM
  have hsz : (((w.alloc (.cells #[.slice none 0 0] 42)).alloc (.cells #[.pointer p] 22)).alloc (.cells #[.int .i64 o] 3)).heap.size = w.heap.size + 3 := by simp
  obtain ⟨W0, hW0⟩ : ∃ W0, (((w.alloc (.cells #[.slice none 0 0] 42)).alloc (.cells #[.pointer p] 22)).alloc (.cells #[.int .i64 o] 3)) = W0 := ⟨_, rfl⟩
  rw [hW0] at hB0 hP hbO hbM hsz ⊢
  clear bO hW0
  refine wpIn_rangeFunc_ownG rfl (by omega) (gf := 97) (lb := #[.pointer (some ⟨w.heap.size + 1, 0, none⟩), .pointer (some ⟨w.heap.size + 1 + 1, 0, none⟩)]) rfl trivial (enters_of Try.func97 (by kernel_rfl) rfl)
    (of1_zero (6 - 1) (by omega) (w.heap.size + 1) (w.heap.size + 1 + 1) p W0 hP hbM) KeepB.trans (KeepB.putObj (fun b hb => by cases hb)) (Below.refl _ _) (fun _ => rfl)
    (fun pre W => (∃ v, Boxed W w.heap.size 42 v ∧ W.ownsRow (w.heap.size + 3) 3 1 v pre.length (pre.map (fun i => Value.int .i64 (i.1 : Nat))) ∧ v = .slice none 0 0) ∧ Below w.heap.size W0 W)
    (fun _ _ _ => False)
    (OwnFrom.and (Own.from (holdsRow_own (w.heap.size + 3) w.heap.size 42 3 1 (fun pre : List (Fin 0) => pre.length) (fun pre => pre.map (fun i => Value.int .i64 (i.1 : Nat))) (fun _ v => v = .slice none 0 0)) _) (ownFrom_below (by omega) (by omega)))
    (fun _ _ _ _ _ hs _ _ => hs)
    ⟨⟨_, hbO, World.ownsRow_nil _ _ _ _, rfl⟩, Below.refl _ _⟩
    (fun x => { tmps := #[.pointer p, .int .i64 o, undef, undef, .slice none 0 0, .pointer (some ⟨w.heap.size, 0, none⟩), .int .i64 (x.1 : Nat), .pointer p, .int .i64 o,
        .func (.func 97) #[] #[.pointer (some ⟨w.heap.size + 1, 0, none⟩), .pointer (some ⟨w.heap.size + 1 + 1, 0, none⟩)], .int .i64 (x.1 : Nat), undef, undef, undef, undef, undef], defers := [] }) ?assign ?body ?done ?stop
  case assign => intro l x; exact x.elim0
  case body => intro l pre x; exact x.elim0
  case done =>
    rintro D ys W hD rfl ⟨⟨_, hv, _, rfl⟩, hBw⟩ hK
    have hc := hv.cell
    gi_wp2
    refine ⟨by simp, .inl ⟨_, _, rfl, run_takeDeferred hK, ?_⟩⟩
    exact ⟨_, results_tmp rfl _ _ _, rfl, Mod.of_below ((hB0.trans hBw).trans (belowK_b (w := w) (Nat.le_refl _) W D _ _ (by omega) hK rfl rfl))⟩
  case stop =>
    rintro D c pre W _ _ h _
    exact h.elim

theorem left_none {p : Option Addr} (w : World) (h : NoM w p) :
    Calls Try.prog 25 #[.pointer p] w fun e W' => e = .returned (.int .i64 0) ∧ Mod No w W' := by
  go_enter Try.func25, Try.ntmps25
  go_wp2_with (go_at_call 26; refine (owned_none (-1) _ h).mono ?_; rintro e w' ⟨rfl, hb⟩)
  go_ret
  exact ⟨rfl, hb⟩

end Go.Proofs.Ythfkpbfapkpnfab
