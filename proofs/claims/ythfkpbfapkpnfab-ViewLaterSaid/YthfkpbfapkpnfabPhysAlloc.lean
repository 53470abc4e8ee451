/- phys.Machine: Alloc. -/
import Derived.Test.YthfkpbfapkpnfabPhysOwned
namespace Go.Proofs.Ythfkpbfapkpnfab
open Go.RowKit Go.Shelf
set_option maxRecDepth 100000

theorem alloc_none {p : Option Addr} (o : Int) (w : World) (h : NoM w p) :
    Calls Try.prog 15 #[.pointer p, .int .i64 o] w fun e w' => e = .returned (.tuple #[.int .i64 0, .int .i64 7]) ∧ Mod No w w' := by
  go_enter Try.func15, Try.ntmps15
  go_wp2_with (go_at_call 63; refine (none_none p _ ((((h.alloc _).alloc _).alloc _).alloc _)).mono ?_; rintro e w' ⟨rfl, rfl⟩)
  exact bodyPost_ret (v := .tuple #[.int .i64 0, .int .i64 7]) (by simp [results, Try.results15, go_sem]) rfl ⟨rfl, ((((Mod.refl No w).alloc _).alloc _).alloc _).alloc _⟩

theorem alloc_arg {B Fb : Nat} {S : List Fr} (o : Int) (w : World) (h : PhM w B Fb S) (ho : (o < 0 ∨ 8 ≤ o) ∧ o ≠ -2) :
    Calls Try.prog 15 #[.pointer (some ⟨B, 0, none⟩), .int .i64 o] w fun e w' => e = .returned (.tuple #[.int .i64 0, .int .i64 1]) ∧ Mod No w w' := by
  have h0 := ((((h.alloc (.cells #[.pointer (some ⟨B, 0, none⟩)] 22)).alloc (.cells #[.int .i64 o] 3)).alloc (.cells #[.int .i64 0] 3)).alloc (.cells #[.int .i64 0] 26)).made
  have d1 : (o != -2) = true := bne_iff_ne.2 ho.2
  have hd := ho.1
  clear ho
  go_enter Try.func15, Try.ntmps15
  go_wp2_with (first
    | (go_at_call 63; refine (none_made B _ h0).mono ?_; rintro e w' ⟨rfl, rfl⟩)
    | (go_at_call 64; refine (domain_no o _ hd).mono ?_; rintro e w' ⟨rfl, rfl⟩))
  exact bodyPost_ret (v := .tuple #[.int .i64 0, .int .i64 1]) (by simp [results, Try.results15, go_sem]) rfl ⟨rfl, ((((Mod.refl No w).alloc _).alloc _).alloc _).alloc _⟩

/-- The six boxes that a call lays. -/
structure AllocB (B : Nat) (o : Int) (w W0 : World) : Prop where
  sz : W0.heap.size = w.heap.size + 6
  b0 : Boxed W0 w.heap.size 22 (.pointer (some ⟨B, 0, none⟩))
  b1 : Boxed W0 (w.heap.size + 1) 3 (.int .i64 o)
  b2 : Boxed W0 (w.heap.size + 1 + 1) 3 (.int .i64 0)
  b3 : Boxed W0 (w.heap.size + 1 + 1 + 1) 26 (.int .i64 0)
  b4 : Boxed W0 (w.heap.size + 1 + 1 + 1 + 1) 22 (.pointer (some ⟨B, 0, none⟩))
  b5 : Boxed W0 (w.heap.size + 1 + 1 + 1 + 1 + 1) 3 (.int .i64 (-1))
  below : Below w.heap.size w W0

theorem alloc_boxes (B : Nat) (o : Int) (w : World) {W0 : World} (h : ((((((w.alloc (.cells #[.pointer (some ⟨B, 0, none⟩)] 22)).alloc (.cells #[.int .i64 o] 3)).alloc (.cells #[.int .i64 0] 3)).alloc (.cells #[.int .i64 0] 26)).alloc
      (.cells #[.pointer (some ⟨B, 0, none⟩)] 22)).alloc (.cells #[.int .i64 (-1)] 3)) = W0) : AllocB B o w W0 := by
  subst h
  have c0 := Boxed.new w 22 (.pointer (some ⟨B, 0, none⟩))
  generalize h1 : w.alloc (.cells #[.pointer (some ⟨B, 0, none⟩)] 22) = w1 at *
  have s1 : w1.heap.size = w.heap.size + 1 := by rw [← h1]; simp
  have c1 := Boxed.new w1 3 (.int .i64 o)
  rw [s1] at c1
  have c0 := c0.alloc (.cells #[.int .i64 o] 3)
  have l1 : Below w.heap.size w w1 := by rw [← h1]; exact (Below.refl _ w).alloc (Nat.le_refl _) _
  have l2 := l1.alloc (by omega) (.cells #[.int .i64 o] 3)
  generalize h2 : w1.alloc (.cells #[.int .i64 o] 3) = w2 at *
  have s2 : w2.heap.size = w.heap.size + 1 + 1 := by rw [← h2]; simp [s1]
  have c2 := Boxed.new w2 3 (.int .i64 0)
  rw [s2] at c2
  have c0 := c0.alloc (.cells #[.int .i64 0] 3)
  have c1 := c1.alloc (.cells #[.int .i64 0] 3)
  have l3 := l2.alloc (by omega) (.cells #[.int .i64 0] 3)
  generalize h3 : w2.alloc (.cells #[.int .i64 0] 3) = w3 at *
  have s3 : w3.heap.size = w.heap.size + 1 + 1 + 1 := by rw [← h3]; simp [s2]
  have c3 := Boxed.new w3 26 (.int .i64 0)
  rw [s3] at c3
  have c0 := c0.alloc (.cells #[.int .i64 0] 26)
  have c1 := c1.alloc (.cells #[.int .i64 0] 26)
  have c2 := c2.alloc (.cells #[.int .i64 0] 26)
  have l4 := l3.alloc (by omega) (.cells #[.int .i64 0] 26)
  generalize h4 : w3.alloc (.cells #[.int .i64 0] 26) = w4 at *
  have s4 : w4.heap.size = w.heap.size + 1 + 1 + 1 + 1 := by rw [← h4]; simp [s3]
  have c4 := Boxed.new w4 22 (.pointer (some ⟨B, 0, none⟩))
  rw [s4] at c4
  have c0 := c0.alloc (.cells #[.pointer (some ⟨B, 0, none⟩)] 22)
  have c1 := c1.alloc (.cells #[.pointer (some ⟨B, 0, none⟩)] 22)
  have c2 := c2.alloc (.cells #[.pointer (some ⟨B, 0, none⟩)] 22)
  have c3 := c3.alloc (.cells #[.pointer (some ⟨B, 0, none⟩)] 22)
  have l5 := l4.alloc (by omega) (.cells #[.pointer (some ⟨B, 0, none⟩)] 22)
  generalize h5 : w4.alloc (.cells #[.pointer (some ⟨B, 0, none⟩)] 22) = w5 at *
  have s5 : w5.heap.size = w.heap.size + 1 + 1 + 1 + 1 + 1 := by rw [← h5]; simp [s4]
  have c5 := Boxed.new w5 3 (.int .i64 (-1))
  rw [s5] at c5
  exact ⟨by simp [s5], c0.alloc _, c1.alloc _, c2.alloc _, c3.alloc _, c4.alloc _, c5, l5.alloc (by omega) _⟩

/-- Ahead of the round. -/
structure AllocI (B Fb : Nat) (S : List Fr) (o : Int) (w W0 : World) (pre : List (Fin S.length)) (W : World) : Prop where
  nil : pre = []
  ph : PhM W B Fb S
  b0 : Boxed W w.heap.size 22 (.pointer (some ⟨B, 0, none⟩))
  b1 : Boxed W (w.heap.size + 1) 3 (.int .i64 o)
  b2 : Boxed W (w.heap.size + 1 + 1) 3 (.int .i64 0)
  b3 : Boxed W (w.heap.size + 1 + 1 + 1) 26 (.int .i64 0)
  below : Below w.heap.size W0 W

/-- Behind it. -/
def AllocX (B Fb : Nat) (S : List Fr) (o : Int) (w W0 : World) (c : Code) (pre : List (Fin S.length)) (W : World) : Prop :=
  c = .ret ∧ ∃ (x : Fin S.length) (f : Fr), S[x.1]? = some f ∧ pre = [x] ∧ PhM W B Fb (S.set x.1 { f with owner := o }) ∧ Boxed W (w.heap.size + 1 + 1) 3 (.int .i64 (x.1 : Nat)) ∧ Boxed W (w.heap.size + 1 + 1 + 1) 26 (.int .i64 0) ∧ Mod (fun k => k = Fb ∨ w.heap.size ≤ k) W0 W

theorem mod_row {X Y : World} {row : Option Nat} (hg : X.grownBy Y row) : Mod (fun k => some k = row) X Y := ⟨hg.os, hg.tape, hg.output, hg.size, fun k hk hn => hg.block k hk hn⟩

theorem allocI_own {B Fb : Nat} {S : List Fr} {o : Int} {w W0 : World} (h6 : w.heap.size + 6 ≤ W0.heap.size) (hB : B < w.heap.size) (hF : Fb < w.heap.size) :
    OwnFrom W0.heap.size (fun pre W => AllocI B Fb S o w W0 pre W) := by
  intro s X Y row hs hg hr
  have ne : ∀ k, k < w.heap.size + 6 → ¬ some k = row := fun k hk e => by have := (hr k e.symm).1; omega
  exact ⟨hs.nil, hs.ph.kept (mod_row hg) (ne _ (by omega)) (ne _ (by omega)), hs.b0.kept hg (ne _ (by omega)), hs.b1.kept hg (ne _ (by omega)), hs.b2.kept hg (ne _ (by omega)), hs.b3.kept hg (ne _ (by omega)),
    hs.below.grown hg (by have := hs.below.size; omega) (fun k e => by have := (hr k e).1; omega)⟩

theorem allocX_own {B Fb : Nat} {S : List Fr} {o : Int} {w W0 : World} (h6 : w.heap.size + 6 ≤ W0.heap.size) (hB : B < w.heap.size) (hF : Fb < w.heap.size) (c : Code) :
    OwnFrom W0.heap.size (fun pre W => AllocX B Fb S o w W0 c pre W) := by
  rintro s X Y row ⟨hc, x, f, hf, hs, hP, b2, b3, hm⟩ hg hr
  have ne : ∀ k, k < w.heap.size + 6 → ¬ some k = row := fun k hk e => by have := (hr k e.symm).1; omega
  exact ⟨hc, x, f, hf, hs, hP.kept (mod_row hg) (ne _ (by omega)) (ne _ (by omega)), b2.kept hg (ne _ (by omega)), b3.kept hg (ne _ (by omega)),
    hm.step (mod_row hg) (fun k hk e => by have := (hr k e.symm).1; omega)⟩

theorem boxed_off {W : World} {b : Nat} {t : TypeId} {v : Value} (h : Boxed W b t v) {p : Addr} (hp : b ≠ p.block) (u : Value) : Boxed (W.setCell p u) b t v := blk_setCell h hp u

theorem allocX_mk {B Fb : Nat} {S : List Fr} {o : Int} {w W0 W : World} (hB : B < w.heap.size) (hF : Fb < w.heap.size) (x : Fin S.length) (f : Fr) (hf : S[x.1]? = some f) (hP : PhM W B Fb S)
    (b2 : Boxed W (w.heap.size + 1 + 1) 3 (.int .i64 0)) (b3 : Boxed W (w.heap.size + 1 + 1 + 1) 26 (.int .i64 0)) (hb : Below w.heap.size W0 W) :
    ∀ W', W' = (((W.setCell ⟨Fb, x.1 * 260, none⟩ (.int .i64 o)).setCell ⟨w.heap.size + 1 + 1, 0, none⟩ (.int .i64 (x.1 : Nat))).setCell ⟨w.heap.size + 1 + 1 + 1, 0, none⟩ (.int .i64 0)).drew →
      KeepsOthers W W' ∧ AllocX B Fb S o w W0 .ret [x] W' := by
  rintro W' rfl
  have hfo := hP.ok f (List.mem_of_getElem? hf)
  refine ⟨(((KeepsOthers.setCell _ _ _).trans (KeepsOthers.setCell _ _ _)).trans (KeepsOthers.setCell _ _ _)).trans (KeepsOthers.drew _), rfl, x, f, hf, rfl, ?_, ?_, ?_, ?_⟩
  · have s1 := hP.set (f' := { f with owner := o }) hf hfo 0 (by omega) (v := .int .i64 o) rfl
    have s2 := s1.kept (P := fun k => w.heap.size ≤ k) ((Mod.refl _ _).setCell (p := ⟨w.heap.size + 1 + 1, 0, none⟩) (fun _ => by show w.heap.size ≤ w.heap.size + 1 + 1; omega) (.int .i64 (x.1 : Nat))) (by omega) (by omega)
    have s3 := s2.kept (P := fun k => w.heap.size ≤ k) ((Mod.refl _ _).setCell (p := ⟨w.heap.size + 1 + 1 + 1, 0, none⟩) (fun _ => by show w.heap.size ≤ w.heap.size + 1 + 1 + 1; omega) (.int .i64 0)) (by omega) (by omega)
    exact s3.kept ((Mod.refl No _).drew) (fun p => p) (fun p => p)
  · have c1 := (boxed_off b2 (p := ⟨Fb, x.1 * 260, none⟩) (by show w.heap.size + 1 + 1 ≠ Fb; omega) (.int .i64 o)).set (.int .i64 (x.1 : Nat))
    exact boxed_off c1 (p := ⟨w.heap.size + 1 + 1 + 1, 0, none⟩) (by show w.heap.size + 1 + 1 ≠ w.heap.size + 1 + 1 + 1; omega) _
  · have c1 := boxed_off (boxed_off b3 (p := ⟨Fb, x.1 * 260, none⟩) (by show w.heap.size + 1 + 1 + 1 ≠ Fb; omega) (.int .i64 o)) (p := ⟨w.heap.size + 1 + 1, 0, none⟩) (by show w.heap.size + 1 + 1 + 1 ≠ w.heap.size + 1 + 1; omega) (.int .i64 (x.1 : Nat))
    exact c1.set (.int .i64 0)
  · refine (((?_ : Mod (fun k => k = Fb ∨ w.heap.size ≤ k) W0 W).setCell (fun _ => .inl rfl) _).setCell (fun _ => .inr (by show w.heap.size ≤ w.heap.size + 1 + 1; omega)) _).setCell (fun _ => .inr (by show w.heap.size ≤ w.heap.size + 1 + 1 + 1; omega)) _ |>.drew
    exact ⟨hb.os, hb.tape, hb.output, hb.size, fun k _ hn => hb.block k (by simp at hn; omega)⟩

attribute [local go_sem] Oper.semAt_some

/-- What a call answers. -/
def AllocPost (B Fb : Nat) (S : List Fr) (o : Int) (w : World) (e : Ending) (w' : World) : Prop :=
  (idxs S (-1) S.length = [] ∧ e = .returned (.tuple #[.int .i64 0, .int .i64 10]) ∧ Mod No w w') ∨
  (∃ (k : Nat) (f : Fr), S[k]? = some f ∧ [(k : Int)] <+: idxs S (-1) S.length ∧ e = .returned (.tuple #[.int .i64 k, .int .i64 0]) ∧ Mod (One Fb) w w' ∧ PhM w' B Fb (S.set k { f with owner := o }))

theorem alloc_end_none {B Fb : Nat} {S : List Fr} {o : Int} {w W0 W : World} {D : Nat} (hB0 : Below w.heap.size w W0) (hD : W0.heap.size ≤ D) (h6 : w.heap.size + 6 = W0.heap.size)
    (hys : [] = idxF S (-1) S.length) (b2 : Boxed W (w.heap.size + 1 + 1) 3 (.int .i64 0)) (b3 : Boxed W (w.heap.size + 1 + 1 + 1) 26 (.int .i64 0)) (hb : Below w.heap.size W0 W)
    (hK : W.heap[D]? = some (.deferred (some []))) :
    ∀ W', W' = (W.setCell ⟨w.heap.size + 1 + 1, 0, none⟩ (.int .i64 0)).setCell ⟨w.heap.size + 1 + 1 + 1, 0, none⟩ (.int .i64 10) →
      W'.heap[D]? = some (.deferred (some [])) ∧ (W'.putObj D (.deferred none)).cell? ⟨w.heap.size + 1 + 1, 0, none⟩ = some (.int .i64 0) ∧ (W'.putObj D (.deferred none)).cell? ⟨w.heap.size + 1 + 1 + 1, 0, none⟩ = some (.int .i64 10) ∧
      AllocPost B Fb S o w (.returned (.tuple #[.int .i64 0, .int .i64 10])) (W'.putObj D (.deferred none)) := by
  rintro W' rfl
  have c2 := boxed_off (b2.set (.int .i64 0)) (p := ⟨w.heap.size + 1 + 1 + 1, 0, none⟩) (by show w.heap.size + 1 + 1 ≠ w.heap.size + 1 + 1 + 1; omega) (.int .i64 10)
  have c3 := (boxed_off b3 (p := ⟨w.heap.size + 1 + 1, 0, none⟩) (by show w.heap.size + 1 + 1 + 1 ≠ w.heap.size + 1 + 1; omega) (.int .i64 0)).set (.int .i64 10)
  have hb2 := (hb.setCell (p := ⟨w.heap.size + 1 + 1, 0, none⟩) (by show w.heap.size ≤ w.heap.size + 1 + 1; omega) (.int .i64 0)).setCell (p := ⟨w.heap.size + 1 + 1 + 1, 0, none⟩) (by show w.heap.size ≤ w.heap.size + 1 + 1 + 1; omega) (.int .i64 10)
  have hK2 := blk_setCell (blk_setCell hK (p := ⟨w.heap.size + 1 + 1, 0, none⟩) (by show D ≠ w.heap.size + 1 + 1; omega) (.int .i64 0)) (p := ⟨w.heap.size + 1 + 1 + 1, 0, none⟩) (by show D ≠ w.heap.size + 1 + 1 + 1; omega) (.int .i64 10)
  have hg := grownBy_putObj' ((W.setCell ⟨w.heap.size + 1 + 1, 0, none⟩ (.int .i64 0)).setCell ⟨w.heap.size + 1 + 1 + 1, 0, none⟩ (.int .i64 10)) D (.deferred none)
  refine ⟨hK2, (c2.kept hg (by simp; omega)).cell, (c3.kept hg (by simp; omega)).cell, .inl ⟨?_, rfl, ?_⟩⟩
  · rw [← idxF_map S (-1) S.length (Nat.le_refl _), ← hys]; rfl
  · exact Mod.of_below (hB0.trans (hb2.grown hg (by have := hb2.size; omega) (fun k e => by cases e; omega)))

theorem alloc_end_some {B Fb : Nat} {S : List Fr} {o : Int} {w W0 W : World} {D : Nat} (hB : B < w.heap.size) (hF : Fb < w.heap.size) (hB0 : Below w.heap.size w W0) (hD : W0.heap.size ≤ D) (h6 : w.heap.size + 6 = W0.heap.size)
    {pre : List (Fin S.length)} (hpre : pre <+: idxF S (-1) S.length) {x : Fin S.length} {f : Fr} (hf : S[x.1]? = some f) (hx : pre = [x]) (hP : PhM W B Fb (S.set x.1 { f with owner := o }))
    (b2 : Boxed W (w.heap.size + 1 + 1) 3 (.int .i64 (x.1 : Nat))) (b3 : Boxed W (w.heap.size + 1 + 1 + 1) 26 (.int .i64 0)) (hm : Mod (fun k => k = Fb ∨ w.heap.size ≤ k) W0 W)
    (_hK : W.heap[D]? = some (.deferred (some []))) :
      (W.putObj D (.deferred none)).cell? ⟨w.heap.size + 1 + 1, 0, none⟩ = some (.int .i64 (x.1 : Nat)) ∧ (W.putObj D (.deferred none)).cell? ⟨w.heap.size + 1 + 1 + 1, 0, none⟩ = some (.int .i64 0) ∧
      AllocPost B Fb S o w (.returned (.tuple #[.int .i64 (x.1 : Nat), .int .i64 0])) (W.putObj D (.deferred none)) := by
  have hg := grownBy_putObj' W D (.deferred none)
  refine ⟨(b2.kept hg (by simp; omega)).cell, (b3.kept hg (by simp; omega)).cell, .inr ⟨x.1, f, hf, ?_, rfl, ?_, ?_⟩⟩
  · rw [← idxF_map S (-1) S.length (Nat.le_refl _)]
    obtain ⟨r, hr⟩ := hpre
    rw [← hr, hx]
    exact ⟨r.map (fun i => ((i.1 : Nat) : Int)), by simp⟩
  · refine ((Mod.of_below (P := One Fb) hB0).step hm ?_).step (mod_row hg) ?_
    · intro i hi q
      rcases q with q | q
      · exact q
      · omega
    · intro i hi q
      have : i = D := by simpa using q
      omega
  · exact hP.kept (mod_row hg) (by simp; omega) (by simp; omega)

set_option maxHeartbeats 2000000 in
theorem alloc_dom {B Fb : Nat} {S : List Fr} (o : Int) (w : World) (h : PhM w B Fb S) (hoo : 0 ≤ o ∧ o < 8) :
    Calls Try.prog 15 #[.pointer (some ⟨B, 0, none⟩), .int .i64 o] w fun e w' => AllocPost B Fb S o w e w' := by
  refine (callsIn_wide (n := 6)).1 ?_
  have hlen := h.len
  have hB := h.ltB
  have hF := h.ltF
  have h0 := ((((h.alloc (.cells #[.pointer (some ⟨B, 0, none⟩)] 22)).alloc (.cells #[.int .i64 o] 3)).alloc (.cells #[.int .i64 0] 3)).alloc (.cells #[.int .i64 0] 26)).made
  refine callsIn_of_wp_marks Try.func15 rfl trivial ?_ rfl
  simp only [Try.ntmps15, List.size_toArray, List.length_cons, List.length_nil, Nat.reduceAdd, Nat.reduceSub, Array.replicate_succ, Array.replicate_zero, List.push_toArray, List.append_toArray, List.nil_append, List.cons_append]
  gi_wp2_with (first
    | (refine ⟨trivial, ?_⟩; gi_at_call 63; refine (callsIn_wide.2 (none_made B _ h0)).mono ?_; rintro e w' ⟨rfl, rfl⟩)
    | (refine ⟨trivial, ?_⟩; gi_at_call 64; refine (callsIn_wide.2 (domain_yes o _ hoo.1 hoo.2)).mono ?_; rintro e w' ⟨rfl, rfl⟩)
    | (refine ⟨trivial, ?_⟩; gi_at_call 65; refine (callsIn_wide.2 (of_any _ _ _)).mono ?_; rintro e w' ⟨rfl, rfl⟩))
  obtain ⟨W0, hW0⟩ : ∃ W0, ((((((w.alloc (.cells #[.pointer (some ⟨B, 0, none⟩)] 22)).alloc (.cells #[.int .i64 o] 3)).alloc (.cells #[.int .i64 0] 3)).alloc (.cells #[.int .i64 0] 26)).alloc
    (.cells #[.pointer (some ⟨B, 0, none⟩)] 22)).alloc (.cells #[.int .i64 (-1)] 3)) = W0 := ⟨_, rfl⟩
  have A := alloc_boxes B o w hW0
  have hP : PhM W0 B Fb S := by rw [← hW0]; exact (((((h.alloc _).alloc _).alloc _).alloc _).alloc _).alloc _
  rw [hW0]
  clear hW0
  refine wpIn_rangeFunc_ownG rfl (by omega) (gf := 97) (lb := #[.pointer (some ⟨w.heap.size + 1 + 1 + 1 + 1, 0, none⟩), .pointer (some ⟨w.heap.size + 1 + 1 + 1 + 1 + 1, 0, none⟩)]) rfl trivial (enters_of Try.func97 (by kernel_rfl) rfl)
    (of1_stops (6 - 1) (by omega) (w.heap.size + 1 + 1 + 1 + 1) (w.heap.size + 1 + 1 + 1 + 1 + 1) B Fb S (-1) W0 hP A.b4 A.b5) KeepB.trans (KeepB.putObj (by intro b hb; have := A.sz; simp at hb; omega)) (Below.refl _ _) (fun _ => rfl)
    (fun pre W => AllocI B Fb S o w W0 pre W)
    (fun c pre W => AllocX B Fb S o w W0 c pre W)
    (allocI_own (by have := A.sz; omega) hB hF) (allocX_own (by have := A.sz; omega) hB hF)
    ⟨rfl, hP, A.b0, A.b1, A.b2, A.b3, Below.refl _ _⟩
    (fun x => { tmps := #[.pointer (some ⟨B, 0, none⟩), .int .i64 o, .pointer (some ⟨w.heap.size, 0, none⟩), .pointer (some ⟨w.heap.size + 1, 0, none⟩), .pointer (some ⟨w.heap.size + 1 + 1, 0, none⟩), .pointer (some ⟨w.heap.size + 1 + 1 + 1, 0, none⟩),
      .int .i64 (x.1 : Nat), .bool false, .pointer (some ⟨B, 0, none⟩), .bool false, .bool false, .int .i64 o, .bool true, .bool false, .bool false, undef, undef, .bool false, .pointer (some ⟨B, 0, none⟩),
      .func (.func 97) #[] #[.pointer (some ⟨w.heap.size + 1 + 1 + 1 + 1, 0, none⟩), .pointer (some ⟨w.heap.size + 1 + 1 + 1 + 1 + 1, 0, none⟩)], .int .i64 (x.1 : Nat), undef, undef, undef, undef, undef, undef, undef, undef, undef, undef], defers := [] }) ?_ ?_ ?_ ?_
  · intro l x W K hK
    gi_wp2
    exact hK
  · rintro l pre x W ⟨rfl, hPW, e0, e1, e2, e3, hBw⟩ hlt
    obtain ⟨f, hf⟩ : ∃ f, S[x.1]? = some f := ⟨S[x.1], by simp⟩
    obtain ⟨c, hc, hfr⟩ := hPW.frames
    have k0 := e0.cell
    have k1 := e1.cell
    have k2 := e2.cell
    have k3 := e3.cell
    have z2 := e2.frozen
    have z3 := e3.frozen
    have hcl : W.cell? ⟨Fb, x.1 * 260, none⟩ = some (.int .i64 f.owner) := hPW.cell hf 0 (by omega)
    have hfz := hPW.free (x.1 * 260)
    have hx : x.1 < S.length := x.2
    have n2 : (⟨Fb, x.1 * 260, none⟩ : Addr) ≠ ⟨w.heap.size + 1 + 1, 0, none⟩ := by intro e; injection e with e1 e2; omega
    have n3 : (⟨Fb, x.1 * 260, none⟩ : Addr) ≠ ⟨w.heap.size + 1 + 1 + 1, 0, none⟩ := by intro e; injection e with e1 e2; omega
    have FIN := Lib.hid (allocX_mk (w := w) (W0 := W0) (o := o) hB hF x f hf hPW e2 e3 hBw)
    have m2 : (W.drew.setCell ⟨Fb, x.1 * 260, none⟩ (.int .i64 o)).cell? ⟨w.heap.size + 1 + 1, 0, none⟩ = some (.int .i64 0) := by rw [World.cell?_setCell_other _ _ _ _ n2]; exact k2
    gi_wp2
    gi_region_with (fail)
    all_goals gi_wp2
    all_goals exact ⟨(FIN.out _ rfl).1.from _, (FIN.out _ rfl).2⟩
  · rintro D ys W hD hys ⟨rfl, hPW, e0, e1, e2, e3, hBw⟩ hK
    have k2 := e2.cell
    have k3 := e3.cell
    have z2 := e2.frozen
    have z3 := e3.frozen
    obtain ⟨E1, E2, E3, E4⟩ := alloc_end_none (B := B) (Fb := Fb) (S := S) (o := o) A.below hD A.sz.symm hys e2 e3 hBw hK _ rfl
    have F1 := Lib.hid E1; have F4 := Lib.hid E4; clear E1 E4 hK
    gi_wp2
    refine ⟨by simp, .inl ⟨_, _, rfl, run_takeDeferred F1.out, ?_⟩⟩
    exact ⟨_, by simp [results, Try.results15, go_sem, E2, E3], F4.out⟩
  · rintro D c pre W hD hpre ⟨rfl, hX⟩ hK
    obtain ⟨x, f, hf, hx, hPx, c2, c3, hmx⟩ := hX
    obtain ⟨E2, E3, E4⟩ := alloc_end_some (o := o) hB hF A.below hD A.sz.symm hpre hf hx hPx c2 c3 hmx hK
    have F1 := Lib.hid hK; have F4 := Lib.hid E4; clear hK E4
    gi_wp2
    refine ⟨by simp, .inl ⟨_, _, rfl, run_takeDeferred F1.out, ?_⟩⟩
    exact ⟨_, by simp [results, Try.results15, go_sem, E2, E3], F4.out⟩

end Go.Proofs.Ythfkpbfapkpnfab
