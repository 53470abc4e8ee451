/- phys.Machine: Alloc for the hypervisor. -/
import Derived.Test.YthfkpbfapkpnfabPhysAlloc
namespace Go.Proofs.Ythfkpbfapkpnfab
open Go.RowKit Go.Shelf
set_option maxRecDepth 100000

attribute [local go_sem] Oper.semAt_some

set_option maxHeartbeats 2000000 in
theorem alloc_hyp {B Fb : Nat} {S : List Fr} (w : World) (h : PhM w B Fb S) :
    Calls Try.prog 15 #[.pointer (some ⟨B, 0, none⟩), .int .i64 (-2)] w fun e w' => AllocPost B Fb S (-2) w e w' := by
  refine (callsIn_wide (n := 6)).1 ?_
  have hlen := h.len
  have hB := h.ltB
  have hF := h.ltF
  have h0 := ((((h.alloc (.cells #[.pointer (some ⟨B, 0, none⟩)] 22)).alloc (.cells #[.int .i64 (-2)] 3)).alloc (.cells #[.int .i64 0] 3)).alloc (.cells #[.int .i64 0] 26)).made
  refine callsIn_of_wp_marks Try.func15 rfl trivial ?_ rfl
  simp only [Try.ntmps15, List.size_toArray, List.length_cons, List.length_nil, Nat.reduceAdd, Nat.reduceSub, Array.replicate_succ, Array.replicate_zero, List.push_toArray, List.append_toArray, List.nil_append, List.cons_append]
  gi_wp2_with (first
    | (refine ⟨trivial, ?_⟩; gi_at_call 63; refine (callsIn_wide.2 (none_made B _ h0)).mono ?_; rintro e w' ⟨rfl, rfl⟩)
    | (refine ⟨trivial, ?_⟩; gi_at_call 64; refine (callsIn_wide.2 (domain_no (-2) _ (by omega))).mono ?_; rintro e w' ⟨rfl, rfl⟩)
    | (refine ⟨trivial, ?_⟩; gi_at_call 65; refine (callsIn_wide.2 (of_any _ _ _)).mono ?_; rintro e w' ⟨rfl, rfl⟩))
  obtain ⟨W0, hW0⟩ : ∃ W0, ((((((w.alloc (.cells #[.pointer (some ⟨B, 0, none⟩)] 22)).alloc (.cells #[.int .i64 (-2)] 3)).alloc (.cells #[.int .i64 0] 3)).alloc (.cells #[.int .i64 0] 26)).alloc
    (.cells #[.pointer (some ⟨B, 0, none⟩)] 22)).alloc (.cells #[.int .i64 (-1)] 3)) = W0 := ⟨_, rfl⟩
  have A := alloc_boxes B (-2) w hW0
  have hP : PhM W0 B Fb S := by rw [← hW0]; exact (((((h.alloc _).alloc _).alloc _).alloc _).alloc _).alloc _
  rw [hW0]
  clear hW0
  refine wpIn_rangeFunc_ownG rfl (by omega) (gf := 97) (lb := #[.pointer (some ⟨w.heap.size + 1 + 1 + 1 + 1, 0, none⟩), .pointer (some ⟨w.heap.size + 1 + 1 + 1 + 1 + 1, 0, none⟩)]) rfl trivial (enters_of Try.func97 (by kernel_rfl) rfl)
    (of1_stops (6 - 1) (by omega) (w.heap.size + 1 + 1 + 1 + 1) (w.heap.size + 1 + 1 + 1 + 1 + 1) B Fb S (-1) W0 hP A.b4 A.b5) KeepB.trans (KeepB.putObj (by intro b hb; have := A.sz; simp at hb; omega)) (Below.refl _ _) (fun _ => rfl)
    (fun pre W => AllocI B Fb S (-2) w W0 pre W)
    (fun c pre W => AllocX B Fb S (-2) w W0 c pre W)
    (allocI_own (by have := A.sz; omega) hB hF) (allocX_own (by have := A.sz; omega) hB hF)
    ⟨rfl, hP, A.b0, A.b1, A.b2, A.b3, Below.refl _ _⟩
    (fun x => { tmps := #[.pointer (some ⟨B, 0, none⟩), .int .i64 (-2), .pointer (some ⟨w.heap.size, 0, none⟩), .pointer (some ⟨w.heap.size + 1, 0, none⟩), .pointer (some ⟨w.heap.size + 1 + 1, 0, none⟩), .pointer (some ⟨w.heap.size + 1 + 1 + 1, 0, none⟩),
      .int .i64 (x.1 : Nat), .bool false, .pointer (some ⟨B, 0, none⟩), .bool false, .bool false, .int .i64 (-2), .bool false, .bool true, .bool true, .int .i64 (-2), .bool false, .bool false, .pointer (some ⟨B, 0, none⟩),
      .func (.func 97) #[] #[.pointer (some ⟨w.heap.size + 1 + 1 + 1 + 1, 0, none⟩), .pointer (some ⟨w.heap.size + 1 + 1 + 1 + 1 + 1, 0, none⟩)], .int .i64 (x.1 : Nat), undef, undef, undef, undef, undef, undef, undef, undef, undef, undef], defers := [] }) ?_ ?_ ?_ ?_
  · intro l x W K hK
    gi_wp2
    exact hK
  · rintro l pre x W ⟨rfl, hPW, e0, e1, e2, e3, hBw⟩ hlt
    obtain ⟨f, hf⟩ : ∃ f, S[x.1]? = some f := ⟨S[x.1], by simp⟩
    obtain ⟨c, hc, hfr⟩ := hPW.frames
    have k0 := e0.cell
    have k1 := e1.cell
    have k2 := e2.cell
    have k3 := e3.cell
    have z2 := e2.frozen
    have z3 := e3.frozen
    have hcl : W.cell? ⟨Fb, x.1 * 260, none⟩ = some (.int .i64 f.owner) := hPW.cell hf 0 (by omega)
    have hfz := hPW.free (x.1 * 260)
    have hx : x.1 < S.length := x.2
    have n2 : (⟨Fb, x.1 * 260, none⟩ : Addr) ≠ ⟨w.heap.size + 1 + 1, 0, none⟩ := by intro e; injection e with e1 e2; omega
    have n3 : (⟨Fb, x.1 * 260, none⟩ : Addr) ≠ ⟨w.heap.size + 1 + 1 + 1, 0, none⟩ := by intro e; injection e with e1 e2; omega
    have FIN := Lib.hid (allocX_mk (w := w) (W0 := W0) (o := (-2)) hB hF x f hf hPW e2 e3 hBw)
    have m2 : (W.drew.setCell ⟨Fb, x.1 * 260, none⟩ (.int .i64 (-2))).cell? ⟨w.heap.size + 1 + 1, 0, none⟩ = some (.int .i64 0) := by rw [World.cell?_setCell_other _ _ _ _ n2]; exact k2
    gi_wp2
    gi_region_with (fail)
    all_goals gi_wp2
    all_goals exact ⟨(FIN.out _ rfl).1.from _, (FIN.out _ rfl).2⟩
  · rintro D ys W hD hys ⟨rfl, hPW, e0, e1, e2, e3, hBw⟩ hK
    have k2 := e2.cell
    have k3 := e3.cell
    have z2 := e2.frozen
    have z3 := e3.frozen
    obtain ⟨E1, E2, E3, E4⟩ := alloc_end_none (B := B) (Fb := Fb) (S := S) (o := (-2)) A.below hD A.sz.symm hys e2 e3 hBw hK _ rfl
    have F1 := Lib.hid E1; have F4 := Lib.hid E4; clear E1 E4 hK
    gi_wp2
    refine ⟨by simp, .inl ⟨_, _, rfl, run_takeDeferred F1.out, ?_⟩⟩
    exact ⟨_, by simp [results, Try.results15, go_sem, E2, E3], F4.out⟩
  · rintro D c pre W hD hpre ⟨rfl, hX⟩ hK
    obtain ⟨x, f, hf, hx, hPx, c2, c3, hmx⟩ := hX
    obtain ⟨E2, E3, E4⟩ := alloc_end_some (o := (-2)) hB hF A.below hD A.sz.symm hpre hf hx hPx c2 c3 hmx hK
    have F1 := Lib.hid hK; have F4 := Lib.hid E4; clear hK E4
    gi_wp2
    refine ⟨by simp, .inl ⟨_, _, rfl, run_takeDeferred F1.out, ?_⟩⟩
    exact ⟨_, by simp [results, Try.results15, go_sem, E2, E3], F4.out⟩

end Go.Proofs.Ythfkpbfapkpnfab
