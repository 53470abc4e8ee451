/- tenementlaw19.begin: both machines, with tables and bytes. -/
import Derived.Test.YtlbebneblmgdcaaDoorBothG
import Derived.Test.YtlbebneblmgdcaaDoorOpenKPut
import Derived.Deep.RegionHeld3
import Derived.Laws.AppendOwnNone
import Derived.Deep.DeepAppendWide
namespace Go.Proofs.YtlbebneblmgdcaaDoor
open Go.RowKit
set_option maxRecDepth 100000

/-- What a write leaves of the frames. -/
def wrS (S : List Fr) (i off : Int) (bs : List Int) : List Fr :=
  if (0 ≤ i ∧ i < S.length) ∧ 0 ≤ off ∧ off + bs.length ≤ 256 then
    (match S[i.toNat]? with
      | some f => if f.owner = -1 then S else S.set i.toNat { f with bytes := splice f.bytes off.toNat bs }
      | none => S)
  else S
theorem wrS_len (S : List Fr) (i off : Int) (bs : List Int) : (wrS S i off bs).length = S.length := by
  unfold wrS
  split
  · split
    · split
      · rfl
      · simp
    · rfl
  · rfl
theorem both_wr (m : Nat) (S : List Fr) (i off : Int) (bs : List Int) (hr : ∀ x ∈ bs, 0 ≤ x ∧ x ≤ 255) (hI : invS m S) : invS m (wrS S i off bs) ∧ ∃ (r : Int),
    (∀ w B F p c, PhM w B F S → Src w p bs → Calls Tryd.prog 15 #[.pointer (some ⟨B, 0, none⟩), .int .i64 i, .int .i64 off, .slice p bs.length c] w (POut B F (.int .i64 r) (wrS S i off bs) w)) ∧
    (∀ w K p c, RfM w K S → (0 < bs.length → ∃ b o, p = some ⟨b, o, none⟩ ∧ ¬ K.inn b ∧ bs.length ≤ c ∧ ∀ j x, bs[j]? = some x → w.cell? ⟨b, o + j, none⟩ = some (.int .u8 x)) →
      Calls Tryd.prog 16 #[.pointer (some ⟨K.R, 0, none⟩), .int .i64 i, .int .i64 off, .slice p bs.length c] w (ROut K (.int .i64 r) (wrS S i off bs) w)) := by
  by_cases hp : InP S i off bs.length
  · have hil : i.toNat < S.length := by have := hp.1; omega
    have hf : S[i.toNat]? = some S[i.toNat] := List.getElem?_eq_getElem hil
    have hv := hI S[i.toNat] (List.getElem_mem hil)
    generalize S[i.toNat] = f at hf hv
    unfold wrS
    rw [if_pos (show (0 ≤ i ∧ i < S.length) ∧ 0 ≤ off ∧ off + bs.length ≤ 256 from ⟨hp.1, hp.2.1, hp.2.2.2⟩), hf]
    dsimp only
    by_cases ho : f.owner = -1
    · rw [if_pos ho]
      exact ⟨hI, 11, fun w B F p c h _ => (write_free i off p _ c f w h hp hf ho).mono fun e w' q => POut.same h q, fun w K p c h _ => (rwrite_free i off p _ c f w h hp hf ho).mono fun e w' q => ROut.same h q⟩
    · rw [if_neg ho]
      exact ⟨hI.set _ ⟨fun q => absurd q ho, hv.own, hv.type, hv.count, hv.zero⟩, 0,
        fun w B F p c h hs => write_in i off p _ c bs f w h rfl hp hf ho hs, fun w K p c h hs => (rwrite_in i off p _ c bs f w h rfl hp hf ho hr hs).mono fun e w' q => ROut.inn q⟩
  · unfold wrS
    rw [if_neg (show ¬ ((0 ≤ i ∧ i < S.length) ∧ 0 ≤ off ∧ off + bs.length ≤ 256) from fun q => hp ⟨q.1, q.2.1, by omega, q.2.2⟩)]
    exact ⟨hI, 1, fun w B F p c h _ => (write_out i off p _ c w h hp).mono fun e w' q => POut.same h q, fun w K p c h _ => (rwrite_out i off p _ c w h hp).mono fun e w' q => ROut.same h q⟩

/-- A write that is asked. -/
def KPut.on (S : List Fr) (o : KPut) : List Fr := wrS S o.frame o.off o.bs
def tabA : List Int := [1, 1, 0, 0]
def tabB : List Int := [3, 2, 0, 0, 1, 3, 0, 0, 3, 4, 0, 0, 3, 5, 0, 0]
/-- The frames behind begin. -/
def tabS : List Fr := wrS (wrS (upTo 6 6) 0 0 tabA) 1 0 tabB
def begS (ops : List KPut) : List Fr := ops.foldl KPut.on tabS

theorem on_len (S : List Fr) (o : KPut) : (o.on S).length = S.length := wrS_len _ _ _ _
theorem fold_len : ∀ (l : List KPut) (S : List Fr), (l.foldl KPut.on S).length = S.length
  | [], _ => rfl
  | o :: l, S => by rw [List.foldl_cons, fold_len l, on_len]
theorem tabS_len : tabS.length = 6 := by unfold tabS; rw [wrS_len, wrS_len, upTo_len (Nat.le_refl 6)]

theorem Tryd.infoPut : ∃ i0, Tryd.prog.info? 59 = some i0 ∧ i0.zero = some (.agg #[.int .i64 0, .int .i64 0, .slice none 0 0]) ∧ i0.size = 3 ∧ i0.bytes = 40 := by
  have h : (Tryd.prog.info? 59).map (fun i => (i.zero, i.size, i.bytes)) = some (some (.agg #[.int .i64 0, .int .i64 0, .slice none 0 0]), 3, 40) := by kernel_rfl
  cases hi : Tryd.prog.info? 59 with
  | none => rw [hi] at h; cases h
  | some i0 =>
    rw [hi] at h
    simp only [Option.map_some, Option.some.injEq, Prod.mk.injEq] at h
    exact ⟨i0, rfl, h.1, h.2.1, h.2.2⟩

def pCells (l : List KPut) : List Value := l.flatMap KPut.cells
theorem pCells_len : ∀ (l : List KPut), (pCells l).length = l.length * 3
  | [] => rfl
  | o :: l => by
    have := pCells_len l
    simp only [pCells, List.flatMap_cons, List.length_append, KPut.cells, List.length_cons, List.length_nil] at this ⊢
    omega
theorem pCells_get : ∀ (l : List KPut) (i j : Nat) (o : KPut) (v : Value), l[i]? = some o → o.cells[j]? = some v → (pCells l)[i * 3 + j]? = some v
  | [], i, _, _, _, h, _ => by simp at h
  | x :: l, 0, j, o, v, h, hv => by
    obtain rfl : x = o := by simpa using h
    have hj : j < x.cells.length := (List.getElem?_eq_some_iff.1 hv).1
    simp only [pCells, List.flatMap_cons, Nat.zero_mul, Nat.zero_add]
    rw [List.getElem?_append_left hj, hv]
  | x :: l, i + 1, j, o, v, h, hv => by
    have h2 : l[i]? = some o := by simpa using h
    simp only [pCells, List.flatMap_cons]
    rw [List.getElem?_append_right (by simp [KPut.cells]; omega)]
    have := pCells_get l i j o v h2 hv
    rw [show (i + 1) * 3 + j - x.cells.length = i * 3 + j by simp [KPut.cells]; omega]
    exact this
theorem pCells_one (l : List KPut) : ∀ u ∈ pCells l, u.oneCell' = true := by
  intro u hu
  obtain ⟨o, _, ho⟩ := List.mem_flatMap.1 hu
  simp only [KPut.cells, List.mem_cons, List.not_mem_nil, or_false] at ho
  rcases ho with rfl | rfl | rfl <;> rfl
theorem pCells_at {l : List KPut} {n : Nat} {v : Value} (h : (pCells l)[n]? = some v) : ∃ o, l[n / 3]? = some o ∧ o.cells[n % 3]? = some v := by
  have hn : n < l.length * 3 := by rw [← pCells_len]; exact (List.getElem?_eq_some_iff.1 h).1
  have hd : n / 3 < l.length := by omega
  refine ⟨l[n / 3], List.getElem?_eq_getElem hd, ?_⟩
  have hj : n % 3 < (l[n / 3]).cells.length := by simp [KPut.cells]; omega
  have := pCells_get l (n / 3) (n % 3) _ _ (List.getElem?_eq_getElem hd) (List.getElem?_eq_getElem hj)
  rw [show n / 3 * 3 + n % 3 = n by omega, h] at this
  rw [List.getElem?_eq_getElem hj, ← this]

theorem RoundS.pair2 {w0 w wa w1 w2 : World} {B F n i j : Nat} {K : RfK} {S S' : List Fr} {v1 v2 : Value} {e1 e2 : Ending} (h : RoundS w0 B F n i K S w) (hw : Mod No w wa) (h1 : POut B F v1 S' wa e1 w1) (h2 : ROut K v2 S' w1 e2 w2) (hI : invS j S') (hl : S'.length = S.length) :
    ∃ K', RoundS w0 B F n j K' S' w2 ∧ K'.R = K.R ∧ (∀ k, K'.has k → K.has k ∨ w.heap.size ≤ k) ∧ Mod (fun k => k = F ∨ K.has k) w w2 := by
  obtain ⟨_, m1, p1⟩ := h1
  obtain ⟨K', _, m2, g, r2⟩ := h2
  have hR := h.two.r.keptNo hw
  have hP := h.two.p.kept hw (fun q => q) (fun q => q)
  have hne := hR.ne_phys hP
  have hne1 := (hR.kept m1 (fun k hk (e : k = F) => hne.2 (e ▸ hk))).ne_phys p1
  have s0 := hw.size
  have s1 := m1.size
  have s := h.mod.size
  have hmm : Mod (fun k => k = F ∨ K.has k) w w2 := ((Mod.of_no hw).trans (m1.mono (fun k _ e => .inl e))).trans (m2.mono (fun k _ e => .inr (RfK.inn_has e)))
  refine ⟨K', ⟨⟨p1.kept m2 (fun q => hne1.1 (RfK.inn_has q)) (fun q => hne1.2 (RfK.inn_has q)), r2, hI⟩, hl.trans h.len, h.mod.step hmm ?_, h.F, ?_⟩, g.1, fun k hk => (g.2 k hk).imp id (fun q => by omega), hmm⟩
  · intro k hk q
    rcases q with rfl | q
    · have := h.F; omega
    · have := h.K k q; omega
  · intro k hk
    rcases g.2 k hk with q | q
    · exact h.K k q
    · omega

theorem Byt.keptQ {w w' : World} {Q : Nat → Prop} {q : Option Addr} {bs : List Int} {cap : Nat} (h : Byt w q bs cap) (hm : Mod Q w w') (hq : ∀ b off, 0 < bs.length → q = some ⟨b, off, none⟩ → ¬ Q b) : Byt w' q bs cap := by
  refine ⟨h.range, h.fit, h.len, h.nil, fun h0 => ?_⟩
  obtain ⟨b, off, e, hb, hc⟩ := h.at_ h0
  exact ⟨b, off, e, Nat.lt_of_lt_of_le hb hm.size, fun j x hj => (World.cell?_of_block (w := w) (hm.block b hb (hq b off h0 e))).trans (hc j x hj)⟩

theorem mod_grown2 {w w' : World} {row : Option Nat} (h : w.grownBy w' row) : Mod (fun i => some i = row) w w' := (Mod.refl _ w).grown h (fun _ e _ => e.symm)
/-- append(tables, l...) -/
theorem append19 {w : World} {os : Array Oper} {rest : List Oper} {o : Oper} {a : Act} {Q : Exit → Act → World → Prop} (hgd : o.guard = none) (s x : Operand)
    (ho : o.op = .call { callee := .builtin .append, args := #[s, x], argTypes := #[22, 22] })
    (base g : Nat) (tab ops : List KPut) (p : Option Addr) (cap c2 : Nat) (hv : a.eval s = .slice (some ⟨g, 0, none⟩) 2 c2) (hown : w.ownsRow base 59 3 (.slice (some ⟨g, 0, none⟩) 2 c2) 2 (pCells tab))
    (hx : a.eval x = .slice p ops.length cap) (hs : KPutS w p ops) (hlen : ops.length * 40 ≤ 140737488355328) (hnil : p = none → cap = 0) (hbase : base ≤ w.heap.size)
    (h : ∀ v' w', w'.ownsRow base 59 3 v' (2 + ops.length) (pCells (tab ++ ops)) → Mod (fun i => i = g) w w' → wpList Tryd.prog os Q rest (a.put o.dst v') w') : wpList Tryd.prog os Q (o :: rest) a w := by
  obtain ⟨i0, hi0, hz, hsz, hby⟩ := Tryd.infoPut
  cases p with
  | none =>
    have hl : ops = [] := by
      cases ops with
      | nil => rfl
      | cons o l =>
        obtain ⟨b, off, e, _⟩ := hs.at_ (by simp)
        cases e
    subst hl
    have hc := hnil rfl
    subst hc
    refine wpList_append_own_none hgd s x 22 ho base 59 i0 3 Tryd.underlying22 hi0 (.slice (some ⟨g, 0, none⟩) 2 c2) 2 (pCells tab) hv hown hx ?_
    exact h _ w (by rw [List.append_nil]; exact hown) (Mod.refl _ w)
  | some ad =>
    refine wpList_append_own_wide w hgd s x 22 ho base 59 i0 _ 3 40 Tryd.underlying22 hi0 hz hsz hby (by rfl) (by omega) (.slice (some ⟨g, 0, none⟩) 2 c2) 2 (pCells tab) hv hown ad ops.length cap (pCells ops) hx (pCells_len ops) ?_ (pCells_one ops) (by unfold maxLen; omega) (by omega) hbase ?_
    · intro j u hj
      obtain ⟨o, h1, h2⟩ := pCells_at hj
      have h0 : 0 < ops.length := by have := (List.getElem?_eq_some_iff.1 h1).1; omega
      obtain ⟨b, off, e, _, hc⟩ := hs.at_ h0
      cases e
      have := hc _ _ h1 _ _ h2
      rw [Addr.add_lit]
      rwa [show j / 3 * 3 + j % 3 = j by omega] at this
    · intro v' w' h1 h2 _
      refine h v' w' ?_ ((mod_grown2 h2).mono (fun i _ q => by cases q; rfl))
      rw [show pCells (tab ++ ops) = pCells tab ++ pCells ops by simp [pCells]]
      exact h1

/-- What the loop of begin writes, and where it lies. -/
structure BegW (wA : World) (F : Nat) (KA : RfK) (g cap : Nat) (L : List KPut) (base : Nat) : Prop where
  row : wA.ownsRow base 59 3 (.slice (some ⟨g, 0, none⟩) L.length cap) L.length (pCells L)
  gF : g ≠ F ∧ ¬ KA.has g
  byt : ∀ o ∈ L, Byt wA o.bq o.bs o.bc ∧ ∀ b off, 0 < o.bs.length → o.bq = some ⟨b, off, none⟩ → b ≠ F ∧ ¬ KA.has b

/-- The lists, as one. -/
def tabK (gA gB : Nat) : List KPut := [⟨0, 0, some ⟨gA, 0, none⟩, tabA, 4⟩, ⟨1, 0, some ⟨gB, 0, none⟩, tabB, 16⟩]
theorem tabK_fold (gA gB : Nat) (ops : List KPut) : (tabK gA gB ++ ops).foldl KPut.on (upTo 6 6) = begS ops := by
  rw [List.foldl_append]; rfl

theorem begW_round {wA wr : World} {F : Nat} {K KA : RfK} {g cap base : Nat} {L : List KPut} (H : BegW wA F KA g cap L base) (hKA : ∀ x, K.has x → KA.has x ∨ wA.heap.size ≤ x) (hm : Mod (fun x => x = F ∨ KA.has x) wA wr) {k : Nat} {o : KPut} (ho : L[k]? = some o) :
    (wr.cell? ⟨g, k * 3, none⟩ = some (.int .i64 o.frame) ∧ wr.cell? ⟨g, k * 3 + 1, none⟩ = some (.int .i64 o.off) ∧ wr.cell? ⟨g, k * 3 + 2, none⟩ = some (.slice o.bq o.bs.length o.bc)) ∧
    Byt wr o.bq o.bs o.bc ∧ (∀ b off, 0 < o.bs.length → o.bq = some ⟨b, off, none⟩ → b ≠ F ∧ ¬ K.has b) ∧ g ≠ F ∧ ¬ K.has g := by
  have hrow := own_mod H.row hm (fun i hi => by cases hi; exact fun q => q.elim H.gF.1 H.gF.2)
  have hlt := (H.row.lt g rfl).2
  obtain ⟨hb, hbb⟩ := H.byt o (List.mem_of_getElem? ho)
  have c : ∀ j v, o.cells[j]? = some v → wr.cell? ⟨g, k * 3 + j, none⟩ = some v := fun j v hv => by
    have := hrow.cells (g := g) rfl (k * 3 + j) v (pCells_get L k j o v ho hv)
    rwa [Addr.add_lit, Nat.zero_add] at this
  refine ⟨⟨c 0 _ rfl, c 1 _ rfl, c 2 _ rfl⟩, hb.keptQ hm (fun b off h0 e => fun q => q.elim (hbb b off h0 e).1 (hbb b off h0 e).2), fun b off h0 e => ⟨(hbb b off h0 e).1, fun q => ?_⟩, H.gF.1, fun q => ?_⟩
  · rcases hKA b q with q | q
    · exact (hbb b off h0 e).2 q
    · obtain ⟨b', off', e', hl', _⟩ := hb.at_ h0
      rw [e] at e'
      cases e'
      omega
  · rcases hKA g q with q | q
    · exact H.gF.2 q
    · omega

theorem begW_made {w wr w3 wA : World} {B F : Nat} {K : RfK} {S : List Fr} {gB gC g' cap' : Nat} {p : Option Addr} {ops : List KPut} (hrd : RoundS w B F 6 0 K S wr) (hs : KPutS w p ops) (m3 : Mod No wr w3)
    (hA : w3.heap[wr.heap.size]? = some (.cells (tabA.map (Value.int .u8)).toArray 5 (0, 0))) (hB : w3.heap[gB]? = some (.cells (tabB.map (Value.int .u8)).toArray 5 (0, 0))) (hgB : wr.heap.size + 1 = gB) (hgC : wr.heap.size + 1 + 1 = gC)
    (hown : wA.ownsRow wr.heap.size 59 3 (.slice (some ⟨g', 0, none⟩) (2 + ops.length) cap') (2 + ops.length) (pCells (tabK wr.heap.size gB ++ ops))) (hm : Mod (fun i => i = gC) w3 wA) :
    BegW wA F K g' cap' (tabK wr.heap.size gB ++ ops) wr.heap.size ∧ RoundS w B F 6 0 K S wA := by
  have hF1 : F < wr.heap.size := hrd.two.p.ltF
  have hK1 : ∀ k, K.has k → k < wr.heap.size := fun k hk => hrd.two.r.lt k hk
  have hl : (tabK wr.heap.size gB ++ ops).length = 2 + ops.length := by simp [tabK]; omega
  have hmA : Mod No wr wA := m3.step hm (fun i hi q => by omega)
  have hg := (hown.lt g' rfl).1
  refine ⟨⟨by rw [hl]; exact hown, ⟨by omega, fun q => by have := hK1 _ q; omega⟩, fun o ho => ?_⟩, hrd.no hmA⟩
  rcases List.mem_append.1 ho with ho | ho
  · simp only [tabK, List.mem_cons, List.not_mem_nil, or_false] at ho
    rcases ho with rfl | rfl
    · have h1 := hm.blk hA (fun q => by omega)
      refine ⟨⟨?_, Nat.le_refl _, by simp [tabA], (fun q => by cases q), fun _ => ⟨_, 0, rfl, lt_of_blk h1, fun j x hj => ?_⟩⟩, fun b off _ e => ?_⟩
      · intro x hx
        simp only [tabA, List.mem_cons, List.not_mem_nil, or_false] at hx
        rcases hx with rfl | rfl | rfl | rfl <;> omega
      · rw [Nat.zero_add, row_cell h1, List.getElem?_map, hj]; rfl
      · cases e
        exact ⟨by omega, fun q => by have := hK1 _ q; omega⟩
    · have h1 := hm.blk hB (fun q => by omega)
      refine ⟨⟨?_, Nat.le_refl _, by simp [tabB], (fun q => by cases q), fun _ => ⟨_, 0, rfl, lt_of_blk h1, fun j x hj => ?_⟩⟩, fun b off _ e => ?_⟩
      · intro x hx
        simp only [tabB, List.mem_cons, List.not_mem_nil, or_false] at hx
        rcases hx with rfl | rfl | rfl | rfl | rfl | rfl | rfl | rfl | rfl | rfl | rfl | rfl | rfl | rfl | rfl | rfl <;> omega
      · rw [Nat.zero_add, row_cell h1, List.getElem?_map, hj]; rfl
      · cases e
        exact ⟨by omega, fun q => by have := hK1 _ q; omega⟩
  · have hb := (hs.ok o ho).b
    refine ⟨hb.kept (hrd.mod.trans hmA), fun b off h0 e => ?_⟩
    obtain ⟨b', off', e', hl', _⟩ := hb.at_ h0
    rw [e] at e'
    cases e'
    have hFw := hrd.F
    exact ⟨by omega, fun q => by have := hrd.K _ q; omega⟩

theorem step_to {l : List KPut} {k : Nat} {o : KPut} (h : l[k]? = some o) (S : List Fr) : (l.take (k + 1)).foldl KPut.on S = o.on ((l.take k).foldl KPut.on S) := by
  rw [List.take_add_one, h, Option.toList_some, List.foldl_append]; rfl

end Go.Proofs.YtlbebneblmgdcaaDoor
