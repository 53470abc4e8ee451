/- view.View: the rewrites that are due; Read, Word, Write. -/
import Derived.Test.YthfkpbfapkpnfabViewM
namespace Go.Proofs.Ythfkpbfapkpnfab
open Go.RowKit Go.Maps
set_option maxRecDepth 100000

theorem clo_in {base top B F V vb pb bb : Nat} {S : List Fr} {p : Pk} {v : Value} {q : Option Addr} {n c : Nat} (w : World) (h : PhM w B F S) (h0 : w.cell? ⟨V, 0, none⟩ = some (.pointer (some ⟨B, 0, none⟩)))
    (hvb : w.heap[vb]? = some (.cells #[.pointer (some ⟨V, 0, none⟩)] 64 (0, 0))) (hc : Clo w base top vb p v pb bb q n c) :
    Calls Try.prog 78 #[.pointer (some ⟨vb, 0, none⟩), .pointer (some ⟨pb, 0, none⟩), .pointer (some ⟨bb, 0, none⟩)] w fun e w' => (∃ v, e = .returned v) ∧ Mod (One F) w w' ∧ PhM w' B F (p.poke S) := by
  have x0 := row_cell (l := [Value.pointer (some ⟨V, 0, none⟩)]) hvb 0
  have y1 := row_cell hc.poke 1
  have y2 := row_cell hc.poke 2
  have z0 := row_cell (l := [Value.slice q n c]) hc.box 0
  simp only [Pk.cells, List.getElem?_cons_zero, List.getElem?_cons_succ] at x0 y1 y2 z0
  have hs : Src w q p.bs := by
    refine ⟨hc.range, fun hpos => ?_⟩
    rcases hc.own.2 with ⟨e, h0⟩ | ⟨g, cap, cur, e, _, hr, _, _, _, ht⟩
    · omega
    · cases e
      refine ⟨⟨g, 0, none⟩, rfl, fun j b hj => ?_⟩
      have := hc.own.cells (g := g) rfl j (.int .u8 b) (by rw [List.getElem?_map, hj]; rfl)
      exact this
  obtain rfl : n = p.bs.length := by
    rcases hc.own.2 with ⟨e, h0⟩ | ⟨g, cap, cur, e, _⟩
    · cases e; exact h0.symm
    · cases e; rfl
  have HRW := Lib.hid (rewrite_in p.mfn p.off q p.bs c w h h0 hs)
  clear hs hc hvb
  go_enter Try.func78, Try.ntmps78
  go_wp2_with fail
  refine HRW.out.mono ?_
  rintro e w2 ⟨⟨u, rfl⟩, hm2, hP2⟩
  go_wp2
  go_end0
  exact ⟨⟨_, rfl⟩, hm2, hP2⟩

theorem lawInt : Keyed Try.prog 3 := int_keyed Try.underlying3
theorem zeroDue (w : World) : (zeroValue 139).run Try.prog w = .ok (.slice none 0 0) w := by kernel_rfl

/-- A row's cell, by its header. -/
theorem due_slice {w : World} {base : Nat} {e : TypeId} {v : Value} {xs : List Value} (h : w.ownsRow base e 1 v xs.length xs) : ∃ q c, v = .slice q xs.length c ∧ (0 < xs.length → ∃ g, q = some ⟨g, 0, none⟩ ∧ xs.length ≤ c ∧ base ≤ g ∧ ∀ (j : Nat) u, xs[j]? = some u → w.cell? ⟨g, j, none⟩ = some u) := by
  rcases h.2 with ⟨rfl, h0⟩ | ⟨g, cap, cur, rfl, hgb, hr, hc, _, _, ht⟩
  · exact ⟨none, 0, by rw [h0], fun q => by omega⟩
  · refine ⟨some ⟨g, 0, none⟩, cap, rfl, fun _ => ⟨g, rfl, hc, hgb, fun j u hj => ?_⟩⟩
    have := h.cells (g := g) rfl j u hj
    simpa [Addr.add_lit] using this

theorem pokes_snoc (l : List Pk) (i : Nat) (p : Pk) (S : List Fr) (h : l[i]? = some p) : pokes (l.take (i + 1)) S = p.poke (pokes (l.take i) S) := by
  unfold pokes
  rw [List.take_add_one, h, List.foldl_append]; rfl

theorem PhM.neV {w : World} {B F V : Nat} {S : List Fr} (h : PhM w B F S) {cs : Array Value} {fz : Nat × Nat} (hv : w.heap[V]? = some (.cells cs 138 fz)) : B ≠ V := by
  rintro rfl
  obtain ⟨c, _, h1⟩ := h.head
  rw [hv] at h1
  simp at h1

theorem okS_poke {S : List Fr} (h : okS S) (p : Pk) (hp : ∀ x ∈ p.bs, 0 ≤ x ∧ x ≤ 255) : okS (p.poke S) := by
  unfold Pk.poke pokeS
  split
  · split
    · rename_i f hf
      split
      · rename_i hc
        refine okS_set h _ ⟨?_, ?_⟩
        · have := (h f (List.mem_of_getElem? hf)).1
          simp only [splice, List.length_append, List.length_take, List.length_drop, this]; omega
        · intro b hb
          simp only [splice, List.mem_append] at hb
          rcases hb with q | q | q
          · exact (h f (List.mem_of_getElem? hf)).2 b (List.mem_of_mem_take q)
          · exact hp b q
          · exact (h f (List.mem_of_getElem? hf)).2 b (List.mem_of_mem_drop q)
      · exact h
    · exact h
  · exact h

theorem okS_pokes : ∀ (l : List Pk) {S : List Fr}, okS S → (∀ p ∈ l, ∀ x ∈ p.bs, 0 ≤ x ∧ x ≤ 255) → okS (pokes l S)
  | [], _, h, _ => h
  | p :: l, _, h, hp => okS_pokes l (okS_poke h p (hp p (by simp))) (fun q hq => hp q (by simp [hq]))
theorem ViM.okS {w : World} {base top : Nat} {k : ViK} {B : Nat} {N : Int} {l : List Pk} (h : ViM w base top k B N l) {S : List Fr} (hS : okS S) (M : Int) : Proofs.Ythfkpbfapkpnfab.okS (pokes (dueAt l M) S) :=
  okS_pokes _ hS (fun p hp => h.d.range p ((List.mem_filter.1 hp).1))

set_option maxHeartbeats 4000000 in
/-- All that happens ahead of the read itself. -/
theorem vread_any {base top B F : Nat} {k : ViK} {S : List Fr} {N : Int} {l : List Pk} (mfn off n : Int) (w : World) (h : PhM w B F S) (hv : ViM w base top k B N l) (hF : F < base) (hN : 0 ≤ N ∧ N < 4611686018427387904) (hl : l.length ≤ 140737488355328)
    (Q : Ending → World → Prop) (hQ : ∀ w', Mod (fun i => i = F ∨ i = k.V) w w' → PhM w' B F (pokes (dueAt l N) S) → ViM w' base top k B (N + 1) l →
      Calls Try.prog 17 #[.pointer (some ⟨B, 0, none⟩), .int .i64 mfn, .int .i64 off, .int .i64 n] w' fun e w2 => ∃ a b, e = .returned (.tuple #[a, b]) ∧ Q (.returned (.tuple #[a, b])) w2) :
    Calls Try.prog 35 #[.pointer (some ⟨k.V, 0, none⟩), .int .i64 mfn, .int .i64 off, .int .i64 n] w Q := by
  obtain ⟨h0, h1, h2, h3⟩ := hv.c0
  obtain ⟨nd, D, sl, cl, hd, hnl, _, hcl⟩ := hv.d.due
  have hlk : ∀ q, (Instr.lookup 136 (.map (some k.D)) (.int .i64 N) false).run Try.prog (w.drewN q) = .ok (sl N) (w.drewN q) :=
    fun q => (hd.keptNo ((Mod.refl No w).drewN q)).look lawInt Try.underlying3 Try.underlying136 (zeroDue _) N (WalkArith.wf_i64 (by omega))
  obtain ⟨qs, cs, hsl, hcell⟩ := due_slice (hd.row N)
  obtain ⟨L, hL⟩ : ∃ L, L = (dueAt l N).length := ⟨_, rfl⟩
  have hbD := hv.d.rng.2.2.2.2.1
  have hlen : (cl N).length = L := by rw [hL]; exact (hcl N).1
  have hLl : L ≤ 140737488355328 := by rw [hL]; exact Nat.le_trans (List.length_filter_le _ _) hl
  rw [hlen] at hsl hcell
  rw [hsl] at hlk
  have HC := Lib.hid hcell
  have HCL := Lib.hid (hcl N)
  have HL := Lib.hid hL
  have HLEN := Lib.hid hlen
  have HV := Lib.hid hv
  have HH := Lib.hid h
  have HQ := Lib.hid hQ
  clear hcell hcl hL hlen hsl hd hnl hQ
  go_enter Try.func35, Try.ntmps35
  go_wp2_with (go_at_call 80; refine (vnone_made k.V B _ h0).mono ?_; rintro e w' ⟨rfl, rfl⟩)
  go_quiet (fail)
  have HM0 : Hid (Mod (One F) w (w.drewN nq)) := (Mod.refl (One F) w).drewN nq
  have HV0 : Hid (ViM (w.drewN nq) base top k B N l) := hv.no ((Mod.refl No w).drewN nq)
  have HP0 : Hid (PhM (w.drewN nq) B F S) := h.kept ((Mod.refl No w).drewN nq) (fun q => q) (fun q => q)
  clear hlk h0 h1 h2 h3 h hv
  generalize w.drewN nq = w0 at HM0 HV0 HP0 ⊢
  go_wp2_with fail
  go_loopw [24] (fun v wr => ∃ i : Nat, i ≤ L ∧ v = .int .i64 i ∧ Mod (One F) w wr ∧ ViM wr base top k B N l ∧ PhM wr B F (pokes ((dueAt l N).take i) S)) (fun v _ => L - (intOf v).toNat)
  case atStart => exact ⟨0, Nat.zero_le _, rfl, HM0.out, HV0.out, HP0.out⟩
  case round =>
    obtain ⟨i, hi, rfl, hm, hv, hP⟩ := hrel
    by_cases hlt : i < L
    · obtain ⟨g, rfl, hgc, hgD, hx⟩ := HC.out (by omega)
      obtain ⟨p, hp⟩ : ∃ p, (dueAt l N)[i]? = some p := ⟨_, List.getElem?_eq_getElem (by rw [← HL.out]; exact hlt)⟩
      obtain ⟨v, hvl⟩ : ∃ v, (cl N)[i]? = some v := ⟨_, List.getElem?_eq_getElem (by rw [HLEN.out]; exact hlt)⟩
      obtain ⟨pb, bb, q, n2, c2, hclo⟩ := HCL.out.2 i p v hp hvl
      have hxi := hx i v hvl
      have hxr := (World.cell?_of_block (w := w) (hm.block g (World.block_lt_of_cell? w _ hxi) (fun (e : g = F) => by omega))).trans hxi
      rw [hclo.val] at hxr
      unfold cloVal at hxr
      have hclo' := hclo.kept hm (fun i _ hi _ _ _ (e : i = F) => by omega)
      obtain ⟨h0, _, _, _⟩ := hv.c0
      have HCI := Lib.hid (clo_in wr hP h0 hv.d.box hclo')
      rw [← pokes_snoc (dueAt l N) i p S hp] at HCI
      have HVR := Lib.hid hv
      have HMR := Lib.hid hm
      clear hx hp hvl hclo hclo' hv hm hP hxi h0
      go_wp2_with fail
      refine HCI.out.mono ?_
      rintro e w2 ⟨⟨u, rfl⟩, hm2, hP2⟩
      have HV2 := Lib.hid (HVR.out.kept hm2 (fun i hi _ (e : i = F) => by omega))
      have HM2 := Lib.hid (HMR.out.trans hm2)
      have HP2 := Lib.hid hP2
      clear hm2 hP2
      go_wp2
      go_roundw
      case rel => exact ⟨i + 1, by omega, by go_num, HM2.out, HV2.out, HP2.out⟩
      case measure => simp [intOf]; omega
    · obtain rfl : i = L := by omega
      rw [HL.out, List.take_length] at hP
      obtain ⟨h0, h1, h2, h3⟩ := hv.c0
      have hv1 := hv.read (N + 1)
      have HM1 : Hid (Mod (fun i => i = F ∨ i = k.V) w (wr.setCell ⟨k.V, 2, none⟩ (.int .i64 (N + 1)))) := (hm.mono (fun _ _ q => .inl q)).setCell (p := ⟨k.V, 2, none⟩) (fun _ => .inr rfl) _
      have hP1 : PhM (wr.setCell ⟨k.V, 2, none⟩ (.int .i64 (N + 1))) B F (pokes (dueAt l N) S) := hP.kept ((Mod.refl (One k.V) wr).set1 2 _) (fun e => hP.neV hv.head e) (fun (e : F = k.V) => by have := hv.d.rng.1; omega)
      have HR := Lib.hid (HQ.out _ HM1.out hP1 hv1)
      clear hv1 hP1 hP hv hm HQ
      go_wp2_with fail
      refine HR.out.mono ?_
      rintro e w2 ⟨a, b, rfl, hq⟩
      have HQ2 := Lib.hid hq
      clear hq
      go_wp2
      exact HQ2.out

end Go.Proofs.Ythfkpbfapkpnfab
