/- A view in memory: the machine, rewrites by the read ahead of which they come, how many reads there were. -/
import Derived.Test.YthfkpbfapkpnfabDue
import Derived.Test.YthfkpbfapkpnfabOpenPk
import Derived.Test.YthfkpbfapkpnfabPhysRW
import Derived.Laws.EntriesVeiled
namespace Go.Proofs.Ythfkpbfapkpnfab
open Go.RowKit Go.Maps
set_option maxRecDepth 100000

/-- What a rewrite does to the frames. -/
def pokeS (S : List Fr) (mfn off : Int) (bs : List Int) : List Fr :=
  if 0 ≤ mfn then match S[mfn.toNat]? with
    | some f => if (0 ≤ f.owner ∧ f.type ≠ 2 ∧ f.type ≠ 3) ∧ 0 ≤ off ∧ off + bs.length ≤ 256 then S.set mfn.toNat { f with bytes := splice f.bytes off.toNat bs } else S
    | none => S
  else S
theorem pokeS_len (S : List Fr) (mfn off : Int) (bs : List Int) : (pokeS S mfn off bs).length = S.length := by
  unfold pokeS
  split
  · split
    · split
      · simp
      · rfl
    · rfl
  · rfl

def Pk.poke (p : Pk) (S : List Fr) : List Fr := pokeS S p.mfn p.off p.bs
/-- All rewrites of a list. -/
def pokes (l : List Pk) (S : List Fr) : List Fr := l.foldl (fun S p => p.poke S) S
theorem pokes_len : ∀ (l : List Pk) (S : List Fr), (pokes l S).length = S.length
  | [], _ => rfl
  | p :: l, S => (pokes_len l (p.poke S)).trans (pokeS_len S p.mfn p.off p.bs)
/-- Those that are due ahead of read number N. -/
def dueAt (l : List Pk) (N : Int) : List Pk := l.filter fun p => p.at_ == N

def cloVal (vb pb bb : Nat) : Value := .func (.func 78) #[] #[.pointer (some ⟨vb, 0, none⟩), .pointer (some ⟨pb, 0, none⟩), .pointer (some ⟨bb, 0, none⟩)]

/-- A rewrite as a function value; its blocks lie from base on, below top. -/
structure Clo (w : World) (base top vb : Nat) (p : Pk) (v : Value) (pb bb : Nat) (q : Option Addr) (n c : Nat) : Prop where
  val : v = cloVal vb pb bb
  pbR : base ≤ pb ∧ pb < top
  bbR : base ≤ bb ∧ bb < top
  poke : w.heap[pb]? = some (.cells p.cells.toArray 77 (0, 0))
  box : w.heap[bb]? = some (.cells #[.slice q n c] 33 (0, 0))
  own : w.ownsRow base 5 1 (.slice q n c) p.bs.length (p.bs.map (Value.int .u8))
  top : ∀ i, (Value.slice q n c).ownBlock = some i → i < top
  range : ∀ x ∈ p.bs, 0 ≤ x ∧ x ≤ 255
def IsClo (w : World) (base top vb : Nat) (p : Pk) (v : Value) : Prop := ∃ pb bb q n c, Clo w base top vb p v pb bb q n c

/-- No view's own cells. -/
def NotV (o : Obj) : Prop := ∀ cs fz, o ≠ .cells cs 138 fz
theorem notV_cells {cs : Array Value} {t : TypeId} {fz : Nat × Nat} (h : t ≠ 138) : NotV (.cells cs t fz) := by
  intro cs' fz' e
  simp only [Obj.cells.injEq] at e
  exact h e.2.1
theorem own_some {w : World} {n₀ : Nat} {e : TypeId} {size : Nat} {v : Value} {k i : Nat} {xs : List Value} (h : w.ownsRow n₀ e size v k xs) (hi : v.ownBlock = some i) : ∃ cur, w.heap[i]? = some (.cells cur e (0, 0)) := by
  rcases h.2 with ⟨rfl, _⟩ | ⟨g, cap, cur, rfl, _, hr, _⟩
  · cases hi
  · cases hi; exact ⟨cur, hr⟩

/-- What may have changed: none of these blocks. -/
def Keeps (Q : Nat → Prop) (w : World) (base top : Nat) : Prop := ∀ i o, base ≤ i → i < top → w.heap[i]? = some o → NotV o → ¬ Q i

/-- Cells that are neither a view's own nor function values. -/
def Soft (o : Obj) : Prop := ∃ cs t fz, o = .cells cs t fz ∧ t ≠ 138 ∧ t ≠ 1
theorem soft_cells {cs : Array Value} {t : TypeId} {fz : Nat × Nat} (h : t ≠ 138) (h2 : t ≠ 1) : Soft (.cells cs t fz) := ⟨cs, t, fz, rfl, h, h2⟩
def KeepsS (Q : Nat → Prop) (w : World) (base top : Nat) : Prop := ∀ i o, base ≤ i → i < top → w.heap[i]? = some o → Soft o → ¬ Q i
theorem Keeps.soft {Q : Nat → Prop} {w : World} {base top : Nat} (h : Keeps Q w base top) : KeepsS Q w base top := by
  rintro i o h1 h2 h3 ⟨cs, t, fz, rfl, h4, _⟩
  exact h i _ h1 h2 h3 (notV_cells h4)

theorem Clo.kept {Q : Nat → Prop} {w w' : World} {base top vb : Nat} {p : Pk} {v : Value} {pb bb : Nat} {q : Option Addr} {n c : Nat} (h : Clo w base top vb p v pb bb q n c) (hm : Mod Q w w') (hq : KeepsS Q w base top) : Clo w' base top vb p v pb bb q n c :=
  ⟨h.val, h.pbR, h.bbR, hm.blk h.poke (hq _ _ h.pbR.1 h.pbR.2 h.poke (soft_cells (by decide) (by decide))), hm.blk h.box (hq _ _ h.bbR.1 h.bbR.2 h.box (soft_cells (by decide) (by decide))),
    own_mod h.own hm (fun i hi => by obtain ⟨cur, hc⟩ := own_some h.own hi; exact hq i _ (h.own.lt i hi).1 (h.top i hi) hc (soft_cells (by decide) (by decide))), h.top, h.range⟩
theorem IsClo.kept {Q : Nat → Prop} {w w' : World} {base top vb : Nat} {p : Pk} {v : Value} (h : IsClo w base top vb p v) (hm : Mod Q w w') (hq : KeepsS Q w base top) : IsClo w' base top vb p v := by
  obtain ⟨pb, bb, q, n, c, h⟩ := h; exact ⟨pb, bb, q, n, c, h.kept hm hq⟩
theorem IsClo.more {w : World} {base top top' vb : Nat} {p : Pk} {v : Value} (h : IsClo w base top vb p v) (ht : top ≤ top') : IsClo w base top' vb p v := by
  obtain ⟨pb, bb, q, n, c, h⟩ := h
  exact ⟨pb, bb, q, n, c, ⟨h.val, ⟨h.pbR.1, by have := h.pbR.2; omega⟩, ⟨h.bbR.1, by have := h.bbR.2; omega⟩, h.poke, h.box, h.own, fun i hi => by have := h.top i hi; omega, h.range⟩⟩

structure ViK where
  V : Nat
  vb : Nat
  D : Nat

/-- The rewrites, by the read ahead of which they come. -/
structure ViD (w : World) (base top : Nat) (k : ViK) (l : List Pk) : Prop where
  box : w.heap[k.vb]? = some (.cells #[.pointer (some ⟨k.V, 0, none⟩)] 64 (0, 0))
  rng : base ≤ k.V ∧ k.V < top ∧ base ≤ k.vb ∧ k.vb < top ∧ base ≤ k.D ∧ k.D < top
  ne : k.V ≠ k.vb
  range : ∀ p ∈ l, ∀ x ∈ p.bs, 0 ≤ x ∧ x ≤ 255
  due : ∃ n D sl cl, Due Try.prog 3 w k.D (k.D + 1) 1 n D sl cl ∧ n ≤ l.length ∧ (∀ t i, (sl t).ownBlock = some i → i < top) ∧ ∀ t, (cl t).length = (dueAt l t).length ∧ ∀ (i : Nat) p v, (dueAt l t)[i]? = some p → (cl t)[i]? = some v → IsClo w base top k.vb p v

/-- A view that view.New made. -/
structure ViM (w : World) (base top : Nat) (k : ViK) (B : Nat) (N : Int) (l : List Pk) : Prop where
  head : w.heap[k.V]? = some (.cells #[.pointer (some ⟨B, 0, none⟩), .map (some k.D), .int .i64 N] 138 (0, 0))
  d : ViD w base top k l

theorem ViD.kept {Q : Nat → Prop} {w w' : World} {base top : Nat} {k : ViK} {l : List Pk} (h : ViD w base top k l) (hm : Mod Q w w') (hq : Keeps Q w base top) : ViD w' base top k l := by
  obtain ⟨n, D, sl, cl, hd, hn, ht, hc⟩ := h.due
  refine ⟨hm.blk h.box (hq _ _ h.rng.2.2.1 h.rng.2.2.2.1 h.box (notV_cells (by decide))), h.rng, h.ne, h.range, n, D, sl, cl, hd.kept hm ?_ ?_, hn, ht, fun t => ⟨(hc t).1, fun i p v hp hv => ((hc t).2 i p v hp hv).kept hm hq.soft⟩⟩
  · obtain ⟨es, clock, hb, _⟩ := hd.map
    exact hq _ _ h.rng.2.2.2.2.1 h.rng.2.2.2.2.2 hb (by intro cs fz e; cases e)
  · intro t i hi
    obtain ⟨cur, hcur⟩ := own_some (hd.row t) hi
    have := ((hd.row t).lt i hi).1
    have := h.rng.2.2.2.2.1
    exact hq i _ (by omega) (ht t i hi) hcur (notV_cells (by decide))

theorem ViM.kept {Q : Nat → Prop} {w w' : World} {base top : Nat} {k : ViK} {B : Nat} {N : Int} {l : List Pk} (h : ViM w base top k B N l) (hm : Mod Q w w') (hq : ∀ i, base ≤ i → i < top → ¬ Q i) : ViM w' base top k B N l :=
  ⟨hm.blk h.head (hq _ h.d.rng.1 h.d.rng.2.1), h.d.kept hm (fun i _ a b _ _ => hq i a b)⟩
theorem ViM.no {w w' : World} {base top : Nat} {k : ViK} {B : Nat} {N : Int} {l : List Pk} (h : ViM w base top k B N l) (hm : Mod No w w') : ViM w' base top k B N l := h.kept hm (fun _ _ _ q => q)

/-- One more read. -/
theorem ViM.read {w : World} {base top : Nat} {k : ViK} {B : Nat} {N : Int} {l : List Pk} (h : ViM w base top k B N l) (N' : Int) : ViM (w.setCell ⟨k.V, 2, none⟩ (.int .i64 N')) base top k B N' l := by
  refine ⟨?_, h.d.kept ((Mod.refl (One k.V) w).set1 2 _) ?_⟩
  · have := row_set (l := [.pointer (some ⟨B, 0, none⟩), .map (some k.D), .int .i64 N]) h.head 2 (.int .i64 N')
    simpa using this
  · intro i o _ _ ho hn e
    have e : i = k.V := e
    subst e
    rw [h.head] at ho
    exact hn _ _ (Option.some.inj ho).symm

theorem ViM.c0 {w : World} {base top : Nat} {k : ViK} {B : Nat} {N : Int} {l : List Pk} (h : ViM w base top k B N l) : w.cell? ⟨k.V, 0, none⟩ = some (.pointer (some ⟨B, 0, none⟩)) ∧ w.cell? ⟨k.V, 1, none⟩ = some (.map (some k.D)) ∧ w.cell? ⟨k.V, 2, none⟩ = some (.int .i64 N) ∧ w.frozen? ⟨k.V, 2, none⟩ = false :=
  ⟨row_cell (l := [.pointer (some ⟨B, 0, none⟩), .map (some k.D), .int .i64 N]) h.head 0, row_cell (l := [.pointer (some ⟨B, 0, none⟩), .map (some k.D), .int .i64 N]) h.head 1,
    row_cell (l := [.pointer (some ⟨B, 0, none⟩), .map (some k.D), .int .i64 N]) h.head 2, row_free (l := [.pointer (some ⟨B, 0, none⟩), .map (some k.D), .int .i64 N]) h.head 2⟩

theorem vnone_made (V B : Nat) (w : World) (h : w.cell? ⟨V, 0, none⟩ = some (.pointer (some ⟨B, 0, none⟩))) :
    Calls Try.prog 80 #[.pointer (some ⟨V, 0, none⟩)] w fun e w' => e = .returned (.bool false) ∧ w = w' := by
  go_enter Try.func80, Try.ntmps80
  go_wp2
  go_ret
  exact ⟨rfl, rfl⟩

theorem vmachine_made (V B : Nat) (w : World) (h : w.cell? ⟨V, 0, none⟩ = some (.pointer (some ⟨B, 0, none⟩))) :
    Calls Try.prog 39 #[.pointer (some ⟨V, 0, none⟩)] w fun e w' => e = .returned (.pointer (some ⟨B, 0, none⟩)) ∧ w = w' := by
  go_enter Try.func39, Try.ntmps39
  go_wp2_with (go_at_call 80; refine (vnone_made V B _ h).mono ?_; rintro e w' ⟨rfl, rfl⟩)
  go_ret
  exact ⟨rfl, rfl⟩

theorem vreads_made {w : World} {base top : Nat} {k : ViK} {B : Nat} {N : Int} {l : List Pk} (h : ViM w base top k B N l) :
    Calls Try.prog 36 #[.pointer (some ⟨k.V, 0, none⟩)] w fun e w' => e = .returned (.int .i64 N) ∧ w = w' := by
  obtain ⟨h0, h1, h2, h3⟩ := h.c0
  go_enter Try.func36, Try.ntmps36
  go_wp2_with (go_at_call 80; refine (vnone_made k.V B _ h0).mono ?_; rintro e w' ⟨rfl, rfl⟩)
  go_ret
  exact ⟨rfl, rfl⟩

theorem pokeS_out {S : List Fr} {mfn off : Int} {bs : List Int} (h : mfn < 0 ∨ (S.length : Int) ≤ mfn) : pokeS S mfn off bs = S := by
  unfold pokeS
  split
  · rw [List.getElem?_eq_none (by omega)]
  · rfl
theorem pokeS_no {S : List Fr} {mfn off : Int} {bs : List Int} {f : Fr} (hf : S[mfn.toNat]? = some f) (h : ¬ ((0 ≤ f.owner ∧ f.type ≠ 2 ∧ f.type ≠ 3) ∧ 0 ≤ off ∧ off + bs.length ≤ 256)) : pokeS S mfn off bs = S := by
  unfold pokeS
  split
  · rw [hf]; simp only; rw [if_neg h]
  · rfl
theorem pokeS_yes {S : List Fr} {mfn off : Int} {bs : List Int} {f : Fr} (h0 : 0 ≤ mfn) (hf : S[mfn.toNat]? = some f) (h : (0 ≤ f.owner ∧ f.type ≠ 2 ∧ f.type ≠ 3) ∧ 0 ≤ off ∧ off + bs.length ≤ 256) :
    pokeS S mfn off bs = S.set mfn.toNat { f with bytes := splice f.bytes off.toNat bs } := by
  unfold pokeS
  rw [if_pos h0, hf]; simp only; rw [if_pos h]

/-- A guest's rewrite. -/
theorem rewrite_in {B F V : Nat} {S : List Fr} (mfn off : Int) (q : Option Addr) (bs : List Int) (c : Nat) (w : World) (h : PhM w B F S) (h0 : w.cell? ⟨V, 0, none⟩ = some (.pointer (some ⟨B, 0, none⟩))) (hs : Src w q bs) :
    Calls Try.prog 79 #[.pointer (some ⟨V, 0, none⟩), .int .i64 mfn, .int .i64 off, .slice q bs.length c] w fun e w' => (∃ v, e = .returned v) ∧ Mod (One F) w w' ∧ PhM w' B F (pokeS S mfn off bs) := by
  by_cases hm : mfn < 0 ∨ (S.length : Int) ≤ mfn
  · rw [pokeS_out hm]
    have HF := Lib.hid (frame_out mfn w h hm)
    go_enter Try.func79, Try.ntmps79
    go_wp2_with fail
    refine HF.out.mono ?_
    rintro e w2 ⟨rfl, hm2⟩
    go_wp2
    go_end0
    exact ⟨⟨_, rfl⟩, (Mod.of_no hm2).alloc _, (h.kept hm2 (fun q => q) (fun q => q)).alloc _⟩
  · obtain ⟨f, hf⟩ : ∃ f, S[mfn.toNat]? = some f := ⟨_, List.getElem?_eq_getElem (by omega)⟩
    have HF := Lib.hid (frame_in mfn f w h (by omega) hf)
    have HV : Hid (∀ w', Mod No w w' → w'.cell? ⟨V, 0, none⟩ = some (.pointer (some ⟨B, 0, none⟩))) := fun w' hm => (World.cell?_of_block (w := w) (hm.block V (World.block_lt_of_cell? w _ h0) (fun q => q))).trans h0
    have HH := Lib.hid h
    have HSR := Lib.hid hs
    by_cases hc : 0 ≤ f.owner ∧ f.type ≠ 2 ∧ f.type ≠ 3
    · have d1 : decide (0 ≤ f.owner) = true := decide_eq_true hc.1
      have d2 : (f.type != 2) = true := bne_iff_ne.2 hc.2.1
      have d3 : (f.type != 3) = true := bne_iff_ne.2 hc.2.2
      by_cases hi : 0 ≤ off ∧ off + bs.length ≤ 256
      · rw [pokeS_yes (by omega) hf ⟨hc, hi⟩]
        have hin : InP S mfn off bs.length := ⟨by omega, hi.1, by omega, hi.2⟩
        have HW : Hid (∀ w', Mod No w w' → Calls Try.prog 22 #[.pointer (some ⟨B, 0, none⟩), .int .i64 mfn, .int .i64 off, .slice q bs.length c] w' fun e w2 => e = .returned (.int .i64 0) ∧ Mod (One F) w' w2 ∧ PhM w2 B F (S.set mfn.toNat { f with bytes := splice f.bytes off.toNat bs })) :=
          fun w' hm => write_in mfn off q bs.length c bs f w' (HH.out.kept hm (fun q => q) (fun q => q)) rfl hin hf (by omega) (HSR.out.kept hm (fun _ _ _ q => q))
        clear hm hi hin h hs
        go_enter Try.func79, Try.ntmps79
        go_wp2_with fail
        refine HF.out.mono ?_
        rintro e w2 ⟨rfl, hm2⟩
        have hm3 := hm2.alloc (.cells #[.int .i64 f.owner, .int .i64 f.type, .int .i64 f.count, .int .i64 f.total] 30)
        have h03 := HV.out _ hm3
        go_wp2_with fail
        refine (HW.out _ hm3).mono ?_
        rintro e w4 ⟨rfl, hm4, hP4⟩
        have HM := Lib.hid ((Mod.of_no (Q := One F) hm3).trans hm4)
        have HP := Lib.hid hP4
        clear hm2 hm3 hm4 hP4 h03
        go_wp2
        go_end0
        exact ⟨⟨_, rfl⟩, HM.out, HP.out⟩
      · rw [pokeS_no hf (fun q => hi q.2)]
        have hnin : ¬ InP S mfn off bs.length := fun q => hi ⟨q.2.1, q.2.2.2⟩
        have HW : Hid (∀ w', Mod No w w' → Calls Try.prog 22 #[.pointer (some ⟨B, 0, none⟩), .int .i64 mfn, .int .i64 off, .slice q bs.length c] w' fun e w2 => e = .returned (.int .i64 1) ∧ w' = w2) :=
          fun w' hm => write_out mfn off q bs.length c w' (HH.out.kept hm (fun q => q) (fun q => q)) hnin
        clear hm hi hnin h hs
        go_enter Try.func79, Try.ntmps79
        go_wp2_with fail
        refine HF.out.mono ?_
        rintro e w2 ⟨rfl, hm2⟩
        have hm3 := hm2.alloc (.cells #[.int .i64 f.owner, .int .i64 f.type, .int .i64 f.count, .int .i64 f.total] 30)
        have h03 := HV.out _ hm3
        go_wp2_with fail
        refine (HW.out _ hm3).mono ?_
        rintro e w4 ⟨rfl, rfl⟩
        have HM := Lib.hid hm3
        clear hm2 hm3 h03
        go_wp2
        go_end0
        exact ⟨⟨_, rfl⟩, Mod.of_no HM.out, HH.out.kept HM.out (fun q => q) (fun q => q)⟩
    · rw [pokeS_no hf (fun q => hc q.1)]
      by_cases e1 : 0 ≤ f.owner
      · have d1 : decide (0 ≤ f.owner) = true := decide_eq_true e1
        by_cases e2 : f.type = 2
        · have d2 : (f.type != 2) = false := by simp [e2]
          clear hm h hs hc e2
          go_enter Try.func79, Try.ntmps79
          go_wp2_with fail
          refine HF.out.mono ?_
          rintro e w2 ⟨rfl, hm2⟩
          have HM := Lib.hid (hm2.alloc (.cells #[.int .i64 f.owner, .int .i64 f.type, .int .i64 f.count, .int .i64 f.total] 30))
          clear hm2
          go_wp2
          go_end0
          exact ⟨⟨_, rfl⟩, Mod.of_no HM.out, HH.out.kept HM.out (fun q => q) (fun q => q)⟩
        · have d2 : (f.type != 2) = true := bne_iff_ne.2 e2
          have d3 : (f.type != 3) = false := by rw [bne_eq_false_iff_eq]; omega
          clear hm h hs hc e2
          go_enter Try.func79, Try.ntmps79
          go_wp2_with fail
          refine HF.out.mono ?_
          rintro e w2 ⟨rfl, hm2⟩
          have HM := Lib.hid (hm2.alloc (.cells #[.int .i64 f.owner, .int .i64 f.type, .int .i64 f.count, .int .i64 f.total] 30))
          clear hm2
          go_wp2
          go_end0
          exact ⟨⟨_, rfl⟩, Mod.of_no HM.out, HH.out.kept HM.out (fun q => q) (fun q => q)⟩
      · have d1 : decide (0 ≤ f.owner) = false := decide_eq_false e1
        clear hm h hs hc e1
        go_enter Try.func79, Try.ntmps79
        go_wp2_with fail
        refine HF.out.mono ?_
        rintro e w2 ⟨rfl, hm2⟩
        have HM := Lib.hid (hm2.alloc (.cells #[.int .i64 f.owner, .int .i64 f.type, .int .i64 f.count, .int .i64 f.total] 30))
        clear hm2
        go_wp2
        go_end0
        exact ⟨⟨_, rfl⟩, Mod.of_no HM.out, HH.out.kept HM.out (fun q => q) (fun q => q)⟩

end Go.Proofs.Ythfkpbfapkpnfab
