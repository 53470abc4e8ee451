/- A list of places that a call makes by append. pte.places. What stands at places, and what stores there leave. tenementref04.each. pte.Fetch, pte.Store. tenementref04.Fetch. pte.Store. tenementref04.Store. Fetch and Store: one answer for the code and the document. -/
import Derived.Test.YtlbebneblmgdcaaDoorPteG
import Derived.Test.YtlbebneblmgdcaaDoorBothG
import Derived.Laws.AppendOwnNone
import Derived.Maps.AppendAt
import Derived.Carry
import Derived.Deep.RegionLaw
import Derived.Deep.DeepCutAuto
import Derived.Deep.CutRange
import Derived.Deep.CutBlock
import Derived.Outline
import Derived.Test.YtlbebneblmgdcaaDoorOpenByt
/- A list of places that a call makes by append. -/
namespace Go.Proofs.YtlbebneblmgdcaaDoor
open Go.RowKit
set_option maxRecDepth 100000

theorem Tryd.infoPlace : (Tryd.prog.info? 103).map (fun i => (i.zero, i.size, i.bytes)) = some (some (.agg #[.int .i64 0, .int .i64 0]), 2, 16) := by kernel_rfl

def plCells (l : List (Int × Int)) : List Value := l.flatMap fun p => [.int .i64 p.1, .int .i64 p.2]
theorem plCells_app (l m : List (Int × Int)) : plCells (l ++ m) = plCells l ++ plCells m := by simp [plCells]
theorem plCells_len : ∀ (l : List (Int × Int)), (plCells l).length = l.length * 2
  | [] => rfl
  | p :: l => by
    have ih := plCells_len l
    simp only [plCells, List.flatMap_cons, List.length_append, List.length_cons, List.length_nil] at ih ⊢
    rw [ih]; omega
theorem plCells_get : ∀ (l : List (Int × Int)) (i : Nat) (p : Int × Int), l[i]? = some p → (plCells l)[i * 2]? = some (.int .i64 p.1) ∧ (plCells l)[i * 2 + 1]? = some (.int .i64 p.2)
  | [], i, p, hi => by simp at hi
  | g :: l, 0, p, hi => by
    simp at hi; subst hi
    exact ⟨rfl, rfl⟩
  | g :: l, i + 1, p, hi => by
    have ih := plCells_get l i p (by simpa using hi)
    have e : plCells (g :: l) = .int .i64 g.1 :: .int .i64 g.2 :: plCells l := rfl
    rw [e, show (i + 1) * 2 = i * 2 + 1 + 1 by omega, List.getElem?_cons_succ, List.getElem?_cons_succ, show i * 2 + 1 + 1 + 1 = (i * 2 + 1) + 1 + 1 by omega, List.getElem?_cons_succ, List.getElem?_cons_succ]
    exact ih
theorem plCells_one (l : List (Int × Int)) : ∀ u ∈ plCells l, u.oneCell' = true := by
  intro u hu
  obtain ⟨o, _, ho⟩ := List.mem_flatMap.1 hu
  simp only [List.mem_cons, List.not_mem_nil, or_false] at ho
  rcases ho with rfl | rfl <;> simp [Value.oneCell']

/-- One more place, out of a block of its own. -/
theorem wpList_append_pl {w : World} {ops : Array Oper} {rest : List Oper} {o : Oper} {a : Act} {Q : Exit → Act → World → Prop} (hgd : o.guard = none) (s x : Operand)
    (ho : o.op = .call { callee := .builtin .append, args := #[s, x], argTypes := #[99, 99] }) (base : Nat) (v : Value) (k : Nat) (xs : List (Int × Int)) (hs : a.eval s = v) (hk : xs.length = k) (hown : w.ownsRow base 103 2 v k (plCells xs))
    (g : Nat) (p : Int × Int) (c : Nat) (hx : a.eval x = .slice (some ⟨g, 0, none⟩) 1 c) (hb : w.heap[g]? = some (.cells #[.int .i64 p.1, .int .i64 p.2] 103 (0, 0))) (hlen : k ≤ 256) (hbase : base ≤ w.heap.size)
    (h : ∀ v' w', w'.ownsRow base 103 2 v' (k + 1) (plCells (xs ++ [p])) → w.grownBy w' v.ownBlock → wpList Tryd.prog ops Q rest (a.put o.dst v') w') : wpList Tryd.prog ops Q (o :: rest) a w := by
  obtain ⟨u0, hu, hu0, hu1, hu2⟩ := info_parts Tryd.infoPlace
  refine wpList_append_own w hgd s x 99 ho base 103 u0 _ 2 16 Tryd.underlying99 hu hu0 hu1 hu2 rfl (by decide) v k _ hs hown ⟨g, 0, none⟩ 1 c [.int .i64 p.1, .int .i64 p.2] hx rfl ?_ (plCells_one [p]) (by unfold maxLen; omega) (by omega) hbase ?_
  · intro j u hj
    rw [Addr.add_lit, Nat.zero_add]
    exact (row_cell (l := [.int .i64 p.1, .int .i64 p.2]) hb j).trans hj
  · intro v' w' h1 h2 _
    exact h v' w' (by rw [plCells_app]; exact h1) h2

end Go.Proofs.YtlbebneblmgdcaaDoor

/- pte.places. -/
namespace Go.Proofs.YtlbebneblmgdcaaDoor
open Go.RowKit
set_option maxRecDepth 100000

def badN (va n : Int) : Prop := n < 0 ∨ 256 < n ∨ (0 < n ∧ 1048576 < va + n)

set_option maxHeartbeats 4000000 in
theorem pplaces_bad {B F : Nat} {S : List Fr} (root va n : Int) (bw : Bool) (w : World) (h : PhM w B F S) (h0 : 0 ≤ va) (h1 : va ≤ 4294967295) (hb : badN va n) (hn : n < 9223372036854775808) :
    Calls Tryd.prog 30 #[.pointer (some ⟨B, 0, none⟩), .int .i64 root, .int .u32 va, .int .i64 n, .bool bw] w fun e w' => e = .returned (.tuple #[.slice none 0 0, .int .i64 1]) ∧ Mod No w w' := by
  have hlen := h.len
  have ds : ((S.length : Int) == 0) = false := beq_eq_false_iff_ne.2 (by omega)
  have HH := Lib.hid h
  clear h
  by_cases b1 : n < 0
  · have d1 : decide (n < 0) = true := decide_eq_true b1
    go_enter Tryd.func30, Tryd.ntmps30
    go_wp2
    go_step3
    go_wp2_with (go_at_call 62; refine (size_made _ HH.out).mono ?_; rintro e w' ⟨rfl, rfl⟩)
    rw [Exit.noGoto_ret]
    go_ret2
    exact ⟨rfl, Mod.refl _ _⟩
  · have d1 : decide (n < 0) = false := decide_eq_false b1
    by_cases b2 : 256 < n
    · have d2 : decide (256 < n) = true := decide_eq_true b2
      go_enter Tryd.func30, Tryd.ntmps30
      go_wp2
      go_step3
      go_wp2_with (go_at_call 62; refine (size_made _ HH.out).mono ?_; rintro e w' ⟨rfl, rfl⟩)
      rw [Exit.noGoto_ret]
      go_ret2
      exact ⟨rfl, Mod.refl _ _⟩
    · have d2 : decide (256 < n) = false := decide_eq_false b2
      have b3 : 0 < n ∧ 1048576 < va + n := by rcases hb with q | q | q; exact absurd q b1; exact absurd q b2; exact q
      have d3 : decide (0 < n) = true := decide_eq_true b3.1
      have d4 : decide (1048576 < va + n) = true := decide_eq_true b3.2
      go_enter Tryd.func30, Tryd.ntmps30
      go_wp2
      go_step3
      go_wp2_with (go_at_call 62; refine (size_made _ HH.out).mono ?_; rintro e w' ⟨rfl, rfl⟩)
      rw [Exit.noGoto_ret]
      go_ret2
      exact ⟨rfl, Mod.refl _ _⟩

set_option maxHeartbeats 8000000 in
theorem pplaces_in {B F : Nat} {S : List Fr} (root va : Int) (N : Nat) (bw : Bool) (w : World) (h : PhM w B F S) (h0 : 0 ≤ va) (hN : 1 ≤ N ∧ N ≤ 256) (hv : va + N ≤ 1048576) :
    Calls Tryd.prog 30 #[.pointer (some ⟨B, 0, none⟩), .int .i64 root, .int .u32 va, .int .i64 (N : Int), .bool bw] w fun e w' => Mod No w w' ∧
      ((errTo S root va bw N ≠ 0 ∧ e = .returned (.tuple #[.slice none 0 0, .int .i64 (errTo S root va bw N)])) ∨
       (errTo S root va bw N = 0 ∧ ∃ q c, e = .returned (.tuple #[.slice q N c, .int .i64 0]) ∧ w'.ownsRow w.heap.size 103 2 (.slice q N c) N (plCells (plcs S root va bw N)))) := by
  have hlen := h.len
  have ds : ((S.length : Int) == 0) = false := beq_eq_false_iff_ne.2 (by omega)
  have HH := Lib.hid h
  clear h
  have d1 : decide ((N : Int) < 0) = false := decide_eq_false (by omega)
  have d2 : decide (256 < (N : Int)) = false := decide_eq_false (by omega)
  have d2' : decide (256 < N) = false := decide_eq_false (by omega)
  have d3 : decide (0 < (N : Int)) = true := decide_eq_true (by omega)
  have d3' : decide (0 < N) = true := decide_eq_true (by omega)
  have d4 : decide (1048576 < va + (N : Int)) = false := decide_eq_false (by omega)
  go_enter Tryd.func30, Tryd.ntmps30
  go_wp2
  go_step3
  go_wp2_with (go_at_call 62; refine (size_made _ HH.out).mono ?_; rintro e w' ⟨rfl, rfl⟩)
  go_step3
  go_wp2_with fail
  go_loopw [12] (fun v bw' => ∃ (j : Nat) (q : Option Addr) (c : Nat), j ≤ N ∧ v = .slice q j c ∧ errTo S root va bw j = 0 ∧ bw'.ownsRow w.heap.size 103 2 (.slice q j c) j (plCells (plcs S root va bw j)) ∧ Mod No w bw') (fun v _ => N - (match v with | .slice _ n _ => n | _ => 0))
  case atStart => exact ⟨0, none, 0, Nat.zero_le _, rfl, rfl, World.ownsRow_nil _ _ _ _, Mod.refl _ _⟩
  case round =>
    obtain ⟨j, q, c, hj, rfl, hej, hown, hm⟩ := hrel
    have HEJ := Lib.hid hej
    have HOWN := Lib.hid hown
    have HM := Lib.hid hm
    clear hej hown hm
    by_cases hlt : j < N
    · have hlt' : (j : Int) < N := by omega
      obtain ⟨R, hR⟩ : ∃ R, R = walkR S root (va + j) bw := ⟨_, rfl⟩
      have hwk : Hid (∀ w', Mod No w w' → Calls Tryd.prog 63 #[.pointer (some ⟨B, 0, none⟩), .int .i64 root, .int .u32 (va + j), .bool bw] w' fun e w2 => e = .returned (.tuple #[.int .i64 R.1, .int .i64 R.2.1, .int .i64 R.2.2]) ∧ Mod No w' w2) := fun w' hm => by
        rw [hR]
        exact walk_any root (va + j) bw w' (HH.out.kept hm (fun q => q) (fun q => q)) (by omega) (by omega)
      have HR := Lib.hid hR
      clear hR
      obtain ⟨mfn, off, er⟩ := R
      by_cases her : er = 0
      · subst her
        go_wp2_with fail
        refine (hwk.out _ HM.out).mono ?_
        rintro e w5 ⟨rfl, hm5⟩
        have HM5 := Lib.hid (HM.out.trans hm5)
        have HOWN5 := Lib.hid (own_mod HOWN.out hm5 (fun _ _ q => q))
        clear hm5
        have hpg : off = (va + j) % 256 ∧ mfn = (walkR S root (va + j) bw).1 ∧ (walkR S root (va + j) bw).2.2 = 0 := by
          have h1 : (walkR S root (va + j) bw).2.2 = 0 := by rw [← HR.out]
          have h2 := (walk_page (S := S) (root := root) (a := va + j) (b := va + j) (wr := bw) (by omega) (by omega) rfl).2.2 h1
          exact ⟨by rw [← h2, ← HR.out], by rw [← HR.out], h1⟩
        have HPG := Lib.hid hpg
        have hoff : 0 ≤ off ∧ off ≤ 255 := by have := hpg.1; omega
        clear hpg
        go_wp2_with fail
        go_loopw [12, 14] (fun v o wr => ∃ (d : Nat) (q : Option Addr) (c : Nat), j + d ≤ N ∧ v = .slice q (j + d) c ∧ o = .int .i64 (off + d) ∧ off + d ≤ 256 ∧ errTo S root va bw (j + d) = 0 ∧ wr.ownsRow w.heap.size 103 2 (.slice q (j + d) c) (j + d) (plCells (plcs S root va bw (j + d))) ∧ Mod No w wr) (fun _ o _ => 256 - (intOf o).toNat)
        case atStart => exact ⟨0, q, c, by omega, rfl, by simp, by omega, HEJ.out, HOWN5.out, HM5.out⟩
        case round =>
          obtain ⟨d, q, c, hd, rfl, rfl, hod, hed, hown, hm⟩ := hrel
          have HED := Lib.hid hed
          have HOD := Lib.hid hown
          have HMD := Lib.hid hm
          clear hed hown hm
          by_cases hlo : off + d < 256
          · have e1 : decide (off + (d : Int) < 256) = true := decide_eq_true hlo
            by_cases hend : j + d = N
            · have hend' : ((j : Int) + d) = N := by omega
              have e2 : ((j : Int) + d == N) = true := beq_iff_eq.2 hend'
              have e3 : (j + d == N) = true := beq_iff_eq.2 hend
              go_wp2_with fail
              rw [Exit.noGoto_ret]
              go_ret2
              have h1 := HED.out
              have h2 := HOD.out
              rw [hend] at h1 h2
              exact ⟨HMD.out, .inr ⟨h1, q, c, by rw [← hend]; rfl, h2⟩⟩
            · have hend' : ¬ ((j : Int) + d) = N := by omega
              have e2 : ((j : Int) + d == N) = false := beq_eq_false_iff_ne.2 hend'
              have e3 : (j + d == N) = false := beq_eq_false_iff_ne.2 hend
              have hwp := walk_page (S := S) (root := root) (a := va + j) (b := va + ((j + d : Nat) : Int)) (wr := bw) (by omega) (by omega) (by have h5 := HPG.out.1; omega)
              have hpl : plc S root va bw (j + d) = (mfn, off + d) := by
                have h5 := HPG.out.1
                unfold plc
                rw [hwp.2.1, ← HPG.out.2.1, hwp.2.2 HPG.out.2.2]
                congr 1
                omega
              have hes : errTo S root va bw (j + d + 1) = 0 := by
                rw [errTo, HED.out, if_neg (fun q => q rfl), hwp.1]
                exact HPG.out.2.2
              have HPL := Lib.hid hpl
              have HES := Lib.hid hes
              clear hwp hpl hes
              have hod2 : (wr.alloc (.cells #[.int .i64 mfn, .int .i64 (off + (d : Int))] 103)).ownsRow w.heap.size 103 2 (.slice q (j + d) c) (j + d) (plCells (plcs S root va bw (j + d))) := own_mod HOD.out ((Mod.refl No wr).alloc _) (fun _ _ q => q)
              have HOD2 := Lib.hid hod2
              have HBB : w.heap.size ≤ (wr.alloc (.cells #[.int .i64 mfn, .int .i64 (off + (d : Int))] 103)).heap.size := by have := HMD.out.size; simp only [World.size_alloc]; omega
              have HBB2 := Lib.hid HBB
              clear hod2 HBB
              go_upto_region 13 with (fail)
              go_wp2_with (at_builtin; refine wpList_append_pl rfl _ _ rfl w.heap.size (.slice q (j + d) c) (j + d) (plcs S root va bw (j + d)) rfl (plcs_len _ _ _ _ _) HOD2.out wr.heap.size (mfn, off + d) 1 rfl (heap_alloc_new wr _) (by omega) HBB2.out ?_; intro v' w6 hown6 hgrow6; obtain ⟨q6, c6, rfl⟩ := owns_slice hown6; have HO6 := Lib.hid hown6; have HG6 := Lib.hid hgrow6; clear hown6 hgrow6)
              have hm6 : Mod No w w6 := (HMD.out.alloc _).step ((Mod.refl _ _).grown HG6.out (fun j ej _ => ej.symm) : Mod (fun i => some i = (Value.slice q (j + d) c).ownBlock) _ w6) (fun i hi e => by have h1 := (HOD2.out.lt i e.symm).1; omega)
              have ho6 := HO6.out
              rw [← HPL.out, ← plcs_succ] at ho6
              have HM6 := Lib.hid hm6
              have HO7 := Lib.hid ho6
              clear hm6 ho6
              go_roundw
              case rel => exact ⟨d + 1, q6, c6, by omega, rfl, by go_num, by omega, HES.out, HO7.out, HM6.out⟩
              case measure => simp [intOf]; omega
          · have e1 : decide (off + (d : Int) < 256) = false := decide_eq_false hlo
            go_wp2_with fail
            exact ⟨⟨j + d, q, c, hd, rfl, HED.out, HOD.out, HMD.out⟩, by show N - (j + d) < N - j; omega⟩
      · have e1 : (er == 0) = false := beq_eq_false_iff_ne.2 her
        have e2 : (er != 0) = true := bne_iff_ne.2 her
        go_wp2_with fail
        refine (hwk.out _ HM.out).mono ?_
        rintro e w5 ⟨rfl, hm5⟩
        have HM5 := Lib.hid hm5
        clear hm5
        go_wp2_with fail
        rw [Exit.noGoto_ret]
        go_ret2
        have h3 : (walkR S root (va + j) bw).2.2 = er := by rw [← HR.out]
        have h4 := errTo_first hlt HEJ.out (by rw [h3]; exact her)
        rw [h3] at h4
        exact ⟨HM.out.trans HM5.out, .inl ⟨by rw [h4]; exact her, by rw [h4]; rfl⟩⟩
    · obtain rfl : j = N := by omega
      go_wp2_with fail
      rw [Exit.noGoto_ret]
      go_ret2
      exact ⟨HM.out, .inr ⟨HEJ.out, q, c, rfl, HOWN.out⟩⟩

end Go.Proofs.YtlbebneblmgdcaaDoor

/- What stands at places, and what stores there leave. -/
namespace Go.Proofs.YtlbebneblmgdcaaDoor
open Go.RowKit
set_option maxRecDepth 100000

theorem walkR_ok {S : List Fr} (hS : okS S) {root va : Int} {bw : Bool} (h : (walkR S root va bw).2.2 = 0) : (0 ≤ (walkR S root va bw).1 ∧ (walkR S root va bw).1 < S.length) ∧ (walkR S root va bw).2.1 = va % 256 := by
  have hge := entR_ok hS (entR S root (va / 16384)).1.mfn (va / 256 % 64)
  unfold walkR at h ⊢
  by_cases c1 : 1048576 ≤ va
  · rw [if_pos c1] at h; exact absurd h (by decide)
  · rw [if_neg c1] at h ⊢
    by_cases c2 : (entR S root (va / 16384)).2 ≠ 0
    · rw [if_pos c2] at h; exact absurd h c2
    · rw [if_neg c2] at h ⊢
      by_cases c3 : (entR S (entR S root (va / 16384)).1.mfn (va / 256 % 64)).2 ≠ 0
      · rw [if_pos c3] at h; exact absurd h c3
      · rw [if_neg c3] at h ⊢
        by_cases c4 : bw = true ∧ (entR S (entR S root (va / 16384)).1.mfn (va / 256 % 64)).1.write = false
        · rw [if_pos c4] at h; exact absurd h (by decide)
        · rw [if_neg c4] at h ⊢
          by_cases c5 : (S.length : Int) ≤ (entR S (entR S root (va / 16384)).1.mfn (va / 256 % 64)).1.mfn
          · rw [if_pos c5] at h; exact absurd h (by decide)
          · rw [if_neg c5]
            exact ⟨⟨hge, by show (entR S (entR S root (va / 16384)).1.mfn (va / 256 % 64)).1.mfn < _; omega⟩, rfl⟩

def InPl (S : List Fr) (p : Int × Int) : Prop := (0 ≤ p.1 ∧ p.1 < S.length) ∧ 0 ≤ p.2 ∧ p.2 ≤ 255

theorem plcs_in {S : List Fr} (hS : okS S) {root va : Int} {bw : Bool} {N : Nat} (h : errTo S root va bw N = 0) : ∀ p ∈ plcs S root va bw N, InPl S p := by
  intro p hp
  obtain ⟨i, hi⟩ := List.getElem?_of_mem hp
  have hl := (List.getElem?_eq_some_iff.1 hi).1
  rw [plcs_len] at hl
  rw [plcs_at hl] at hi
  obtain rfl := Option.some.inj hi
  have := walkR_ok hS (errTo_ok h i hl)
  refine ⟨this.1, ?_, ?_⟩ <;> (show _ ≤ _; simp only [plc]; rw [this.2]; omega)

/-- The byte at a place; a byte stored there. -/
def byteAt (S : List Fr) (p : Int × Int) : Int := match S[p.1.toNat]? with | some f => f.bytes.getD p.2.toNat 0 | none => 0
def put1 (S : List Fr) (p : Int × Int) (x : Int) : List Fr := match S[p.1.toNat]? with | some f => if f.owner = -1 then S else S.set p.1.toNat { f with bytes := splice f.bytes p.2.toNat [x] } | none => S
def putsTo (pl : List (Int × Int)) (bs : List Int) (S : List Fr) : Nat → List Fr
  | 0 => S
  | k + 1 => put1 (putsTo pl bs S k) (pl.getD k (0, 0)) (bs.getD k 0)

theorem put1_len (S : List Fr) (p : Int × Int) (x : Int) : (put1 S p x).length = S.length := by
  unfold put1; split
  · split <;> simp
  · rfl
theorem putsTo_len (pl : List (Int × Int)) (bs : List Int) (S : List Fr) : ∀ k, (putsTo pl bs S k).length = S.length
  | 0 => rfl
  | k + 1 => by rw [putsTo, put1_len, putsTo_len pl bs S k]
theorem InPl.of {S T : List Fr} {p : Int × Int} (h : InPl S p) (hl : T.length = S.length) : InPl T p := ⟨by rw [hl]; exact h.1, h.2⟩
theorem invS_put1 {m : Nat} {S : List Fr} (h : invS m S) (p : Int × Int) (x : Int) : invS m (put1 S p x) := by
  unfold put1; split
  · rename_i f hf
    have hv := h f (List.mem_of_getElem? hf)
    split
    · exact h
    · rename_i ho
      exact h.set _ ⟨fun q => absurd q ho, hv.own, hv.type, hv.count, hv.zero⟩
  · exact h
theorem invS_puts {m : Nat} {S : List Fr} (h : invS m S) (pl : List (Int × Int)) (bs : List Int) : ∀ k, invS m (putsTo pl bs S k)
  | 0 => h
  | k + 1 => invS_put1 (invS_puts h pl bs k) _ _

theorem one_byte {f : Fr} (hf : f.ok) {o : Nat} (ho : o ≤ 255) : (f.bytes.drop o).take 1 = [f.bytes.getD o 0] := by
  have hl := hf.1
  have h1 : f.bytes.drop o = f.bytes[o]'(by omega) :: f.bytes.drop (o + 1) := List.drop_eq_getElem_cons (by omega)
  rw [h1, List.getD_eq_getElem?_getD, List.getElem?_eq_getElem (show o < f.bytes.length by omega)]
  rfl

theorem byteAt_in {S : List Fr} {p : Int × Int} (h : InPl S p) : ∃ f, S[p.1.toNat]? = some f ∧ byteAt S p = f.bytes.getD p.2.toNat 0 ∧ InP S p.1 p.2 1 := by
  obtain ⟨f, hf⟩ : ∃ f, S[p.1.toNat]? = some f := ⟨_, List.getElem?_eq_getElem (by have := h.1; omega)⟩
  refine ⟨f, hf, by unfold byteAt; rw [hf], h.1, h.2.1, by omega, ?_⟩
  have := h.2; omega

/-- A read of one byte. -/
theorem read_one {B F : Nat} {S : List Fr} (p : Int × Int) (w : World) (h : PhM w B F S) (hp : InPl S p) :
    Calls Tryd.prog 7 #[.pointer (some ⟨B, 0, none⟩), .int .i64 p.1, .int .i64 p.2, .int .i64 1] w fun e w' =>
      e = .returned (.tuple #[.slice (some ⟨w.heap.size, 0, none⟩) 1 1, .int .i64 0]) ∧ Mod No w w' ∧ w.heap.size < w'.heap.size ∧ w'.heap[w.heap.size]? = some (.cells #[.int .u8 (byteAt S p)] 5 (0, 0)) := by
  obtain ⟨f, hf, hb, hi⟩ := byteAt_in hp
  refine (read_in p.1 p.2 1 f w h hi hf).mono ?_
  rintro e w' ⟨rfl, hm, hs, hg⟩
  refine ⟨rfl, hm, hs, ?_⟩
  rw [hg, show ((1 : Int).toNat) = 1 from rfl, one_byte (h.ok f (List.mem_of_getElem? hf)) (by have := hp.2; omega), hb]
  rfl

/-- A store of one byte, in both machines. -/
theorem write_one {B F : Nat} {S : List Fr} (p : Int × Int) (x : Int) (q : Option Addr) (c : Nat) (w : World) (h : PhM w B F S) (hp : InPl S p) (hs : Src w q [x]) :
    Calls Tryd.prog 15 #[.pointer (some ⟨B, 0, none⟩), .int .i64 p.1, .int .i64 p.2, .slice q 1 c] w fun e w' => (∃ r, e = .returned (.int .i64 r)) ∧ Mod (One F) w w' ∧ PhM w' B F (put1 S p x) := by
  obtain ⟨f, hf, _, hi⟩ := byteAt_in hp
  by_cases ho : f.owner = -1
  · refine (write_free p.1 p.2 q 1 c f w h hi hf ho).mono ?_
    rintro e w' ⟨rfl, rfl⟩
    refine ⟨⟨_, rfl⟩, Mod.refl _ _, ?_⟩
    have : put1 S p x = S := by unfold put1; rw [hf]; exact if_pos ho
    rw [this]; exact h
  · refine (write_in p.1 p.2 q 1 c [x] f w h rfl hi hf ho hs).mono ?_
    rintro e w' ⟨rfl, hm, hP⟩
    refine ⟨⟨_, rfl⟩, hm, ?_⟩
    have : put1 S p x = S.set p.1.toNat { f with bytes := splice f.bytes p.2.toNat [x] } := by unfold put1; rw [hf]; exact if_neg ho
    rw [this]; exact hP
theorem rwrite_one {K : RfK} {S : List Fr} (p : Int × Int) (x : Int) (b o c : Nat) (w : World) (h : RfM w K S) (hp : InPl S p) (hx : 0 ≤ x ∧ x ≤ 255) (hb : ¬ K.inn b) (hc : 1 ≤ c) (hs : w.cell? ⟨b, o, none⟩ = some (.int .u8 x)) :
    Calls Tryd.prog 16 #[.pointer (some ⟨K.R, 0, none⟩), .int .i64 p.1, .int .i64 p.2, .slice (some ⟨b, o, none⟩) 1 c] w fun e w' => (∃ r, e = .returned (.int .i64 r)) ∧ Mod K.inn w w' ∧ RfM w' K (put1 S p x) := by
  obtain ⟨f, hf, _, hi⟩ := byteAt_in hp
  by_cases ho : f.owner = -1
  · refine (rwrite_free p.1 p.2 _ 1 c f w h hi hf ho).mono ?_
    rintro e w' ⟨rfl, rfl⟩
    refine ⟨⟨_, rfl⟩, Mod.refl _ _, ?_⟩
    have : put1 S p x = S := by unfold put1; rw [hf]; exact if_pos ho
    rw [this]; exact h
  · refine (rwrite_in p.1 p.2 _ 1 c [x] f w h rfl hi hf ho (fun y hy => by rw [List.mem_singleton.1 hy]; exact hx) (fun _ => ⟨b, o, rfl, hb, hc, fun j y hj => ?_⟩)).mono ?_
    · have hj0 : j = 0 := by have := (List.getElem?_eq_some_iff.1 hj).1; simpa using this
      subst hj0
      simp at hj
      rw [← hj]; exact hs
    rintro e w' ⟨rfl, hm, hP⟩
    refine ⟨⟨_, rfl⟩, hm, ?_⟩
    have : put1 S p x = S.set p.1.toNat { f with bytes := splice f.bytes p.2.toNat [x] } := by unfold put1; rw [hf]; exact if_neg ho
    rw [this]; exact hP

end Go.Proofs.YtlbebneblmgdcaaDoor

/- tenementref04.each. -/
namespace Go.Proofs.YtlbebneblmgdcaaDoor
open Go.RowKit
set_option maxRecDepth 100000

/-- Two own rows in two blocks. -/
def Apart (u v : Value) : Prop := ∀ i, u.ownBlock = some i → v.ownBlock = some i → False
theorem Apart.symm {u v : Value} (h : Apart u v) : Apart v u := fun i a b => h i b a
theorem Apart.grow {w : World} {n₀ : Nat} {e : TypeId} {size : Nat} {u v v' : Value} {k : Nat} {xs : List Value} (h : Apart u v) (hu : w.ownsRow n₀ e size u k xs) (hv : v'.ownBlock = v.ownBlock ∨ v'.ownBlock = some w.heap.size) : Apart u v' := by
  intro i a b
  rcases hv with q | q
  · exact h i a (q ▸ b)
  · rw [q] at b; cases b
    have := (hu.lt _ a).2
    omega

theorem wpList_append_int1 {w : World} {ops : Array Oper} {rest : List Oper} {o : Oper} {a : Act} {Q : Exit → Act → World → Prop} (hgd : o.guard = none) (s x : Operand)
    (ho : o.op = .call { callee := .builtin .append, args := #[s, x], argTypes := #[96, 96] }) (base : Nat) (v : Value) (k : Nat) (xs : List Int) (hs : a.eval s = v) (hown : w.ownsRow base 3 1 v k (xs.map (Value.int .i64)))
    (g : Nat) (y : Int) (c : Nat) (hx : a.eval x = .slice (some ⟨g, 0, none⟩) 1 c) (hb : w.heap[g]? = some (.cells #[.int .i64 y] 3 (0, 0))) (hlen : k ≤ 256) (hbase : base ≤ w.heap.size)
    (h : ∀ v' w', w'.ownsRow base 3 1 v' (k + 1) ((xs ++ [y]).map (Value.int .i64)) → w.grownBy w' v.ownBlock → (v'.ownBlock = v.ownBlock ∨ v'.ownBlock = some w.heap.size) → wpList Tryd.prog ops Q rest (a.put o.dst v') w') : wpList Tryd.prog ops Q (o :: rest) a w := by
  obtain ⟨u0, hu, hu0, hu1, hu2⟩ := info_parts Tryd.infoInt
  refine wpList_append_own_at w hgd s x 96 ho base 3 u0 _ 1 8 Tryd.underlying96 hu hu0 hu1 hu2 rfl (by decide) v k _ hs hown ⟨g, 0, none⟩ 1 c [.int .i64 y] hx rfl ?_ (by simp [Value.oneCell']) (by unfold maxLen; omega) (by omega) hbase ?_
  · intro j u hj
    rw [Addr.add_lit, Nat.zero_add]
    exact (row_cell (l := [.int .i64 y]) hb j).trans hj
  · intro v' w' h1 h2 _ h3
    exact h v' w' (by rw [List.map_append]; exact h1) h2 h3

theorem fst_succ (S : List Fr) (root va : Int) (bw : Bool) (k : Nat) : (plcs S root va bw (k + 1)).map Prod.fst = (plcs S root va bw k).map Prod.fst ++ [(walkR S root (va + k) bw).1] := by rw [plcs_succ]; simp [plc]
theorem snd_succ (S : List Fr) (root va : Int) (bw : Bool) (k : Nat) : (plcs S root va bw (k + 1)).map Prod.snd = (plcs S root va bw k).map Prod.snd ++ [(walkR S root (va + k) bw).2.1] := by rw [plcs_succ]; simp [plc]

/-- Two own lists of ints: the places. -/
structure Two2 (w0 : World) (l : List (Int × Int)) (n : Nat) (u v : Value) (w : World) : Prop where
  mod : Mod No w0 w
  a : w.ownsRow w0.heap.size 3 1 u n ((l.map Prod.fst).map (Value.int .i64))
  b : w.ownsRow w0.heap.size 3 1 v n ((l.map Prod.snd).map (Value.int .i64))
  ap : Apart u v

theorem mod_grown {w w' : World} {row : Option Nat} (h : w.grownBy w' row) : Mod (fun i => some i = row) w w' := (Mod.refl _ w).grown h (fun _ e _ => e.symm)

def EachPost (S : List Fr) (root va : Int) (bw : Bool) (N : Nat) (w : World) (e : Ending) (w' : World) : Prop :=
  (errTo S root va bw N ≠ 0 ∧ e = .returned (.tuple #[.slice none 0 0, .slice none 0 0, .int .i64 (errTo S root va bw N)]) ∧ Mod No w w') ∨
  (errTo S root va bw N = 0 ∧ ∃ q c q2 c2, e = .returned (.tuple #[.slice q N c, .slice q2 N c2, .int .i64 0]) ∧ Two2 w (plcs S root va bw N) N (.slice q N c) (.slice q2 N c2) w')

end Go.Proofs.YtlbebneblmgdcaaDoor

/- pte.Fetch, pte.Store. -/
namespace Go.Proofs.YtlbebneblmgdcaaDoor
open Go.RowKit
set_option maxRecDepth 100000

def PlPost (S : List Fr) (root va : Int) (bw : Bool) (N : Nat) (w : World) (e : Ending) (w' : World) : Prop := Mod No w w' ∧
      ((errTo S root va bw N ≠ 0 ∧ e = .returned (.tuple #[.slice none 0 0, .int .i64 (errTo S root va bw N)])) ∨
       (errTo S root va bw N = 0 ∧ ∃ q c, e = .returned (.tuple #[.slice q N c, .int .i64 0]) ∧ w'.ownsRow w.heap.size 103 2 (.slice q N c) N (plCells (plcs S root va bw N))))

theorem pplaces_any {B F : Nat} {S : List Fr} (root va : Int) (N : Nat) (bw : Bool) (w : World) (h : PhM w B F S) (h0 : 0 ≤ va) (hN : N ≤ 256) (hv : 1 ≤ N → va + N ≤ 1048576) :
    Calls Tryd.prog 30 #[.pointer (some ⟨B, 0, none⟩), .int .i64 root, .int .u32 va, .int .i64 (N : Int), .bool bw] w (PlPost S root va bw N w) := by
  by_cases hz : 1 ≤ N
  · exact pplaces_in root va N bw w h h0 ⟨hz, hN⟩ (hv hz)
  · obtain rfl : N = 0 := by omega
    have hlen := h.len
    have ds : ((S.length : Int) == 0) = false := beq_eq_false_iff_ne.2 (by omega)
    have HH := Lib.hid h
    clear h
    go_enter Tryd.func30, Tryd.ntmps30
    go_wp2
    go_step3
    go_wp2_with (go_at_call 62; refine (size_made _ HH.out).mono ?_; rintro e w' ⟨rfl, rfl⟩)
    go_step3
    go_wp2_with fail
    refine wp_loop_rounds 1 ?_
    rw [rounds_succ]
    go_wp2
    rw [Exit.noGoto_ret]
    go_ret2
    exact ⟨Mod.refl _ _, .inr ⟨rfl, none, 0, rfl, World.ownsRow_nil _ _ _ _⟩⟩

/-- A place in an own row. -/
theorem pl_item {W : World} {b : Nat} {q : Option Addr} {N c : Nat} {l : List (Int × Int)} (h : W.ownsRow b 103 2 (.slice q N c) N (plCells l)) (j : Nat) (p : Int × Int) (hj : l[j]? = some p) :
    ∃ g, q = some ⟨g, 0, none⟩ ∧ N ≤ c ∧ b ≤ g ∧ g < W.heap.size ∧ W.cell? ⟨g, j * 2, none⟩ = some (.int .i64 p.1) ∧ W.cell? ⟨g, j * 2 + 1, none⟩ = some (.int .i64 p.2) := by
  have hl := h.1
  rw [plCells_len] at hl
  have hjl := (List.getElem?_eq_some_iff.1 hj).1
  rcases h.2 with ⟨e, h2⟩ | ⟨g, cap, cur, e, hg, hr, hc, hm, hs, ht⟩
  · omega
  · cases e
    have hx := plCells_get l j p hj
    have x0 := h.cells (g := g) rfl _ _ hx.1
    have x1 := h.cells (g := g) rfl _ _ hx.2
    rw [Addr.add_lit, Nat.zero_add] at x0 x1
    exact ⟨g, rfl, hc, hg, lt_of_blk hr, x0, x1⟩

def fetchB (S : List Fr) (root va : Int) (N : Nat) : List Int := (plcs S root va false N).map (byteAt S)

theorem infoU8P4 : ∃ i0, Tryd.prog.info? 5 = some i0 ∧ i0.zero = some (.int .u8 0) ∧ i0.size = 1 ∧ i0.bytes = 1 := by
  obtain ⟨i, h, a, b, c⟩ := info_parts Tryd.infoU8
  exact ⟨i, h, a, b, c⟩

theorem wpList_append_u81 {w : World} {ops : Array Oper} {rest : List Oper} {o : Oper} {a : Act} {Q : Exit → Act → World → Prop} (hgd : o.guard = none) (s x : Operand)
    (ho : o.op = .call { callee := .builtin .append, args := #[s, x], argTypes := #[37, 37] }) (base : Nat) (v : Value) (k : Nat) (xs : List Int) (hs : a.eval s = v) (hown : w.ownsRow base 5 1 v k (xs.map (Value.int .u8)))
    (g : Nat) (y : Int) (c : Nat) (hx : a.eval x = .slice (some ⟨g, 0, none⟩) 1 c) (hb : w.heap[g]? = some (.cells #[.int .u8 y] 5 (0, 0))) (hlen : k ≤ 4294967296) (hbase : base ≤ w.heap.size)
    (h : ∀ v' w', w'.ownsRow base 5 1 v' (k + 1) ((xs ++ [y]).map (Value.int .u8)) → w.grownBy w' v.ownBlock → wpList Tryd.prog ops Q rest (a.put o.dst v') w') : wpList Tryd.prog ops Q (o :: rest) a w := by
  obtain ⟨u0, hu, hu0, hu1, hu2⟩ := infoU8P4
  refine wpList_append_own w hgd s x 37 ho base 5 u0 _ 1 1 Tryd.underlying37 hu hu0 hu1 hu2 rfl (by decide) v k _ hs hown ⟨g, 0, none⟩ 1 c [.int .u8 y] hx rfl ?_ (by simp [Value.oneCell']) (by unfold maxLen; omega) (by omega) hbase ?_
  · intro j u hj
    rw [Addr.add_lit, Nat.zero_add]
    exact (row_cell (l := [.int .u8 y]) hb j).trans hj
  · intro v' w' h1 h2 _
    exact h v' w' (by rw [List.map_append]; exact h1) h2

def FetchPost (S : List Fr) (root va : Int) (N : Nat) (w : World) (e : Ending) (w' : World) : Prop := Mod No w w' ∧
      ((errTo S root va false N ≠ 0 ∧ e = .returned (.tuple #[.slice none 0 0, .int .i64 (errTo S root va false N)])) ∨
       (errTo S root va false N = 0 ∧ ∃ q c, e = .returned (.tuple #[.slice q N c, .int .i64 0]) ∧ w'.ownsRow w.heap.size 5 1 (.slice q N c) N ((fetchB S root va N).map (Value.int .u8))))

set_option maxHeartbeats 4000000 in
theorem fetch_bad {B F : Nat} {S : List Fr} (root va n : Int) (w : World) (h : PhM w B F S) (h0 : 0 ≤ va) (h1 : va ≤ 4294967295) (hb : badN va n) (hn : n < 9223372036854775808) :
    Calls Tryd.prog 17 #[.pointer (some ⟨B, 0, none⟩), .int .i64 root, .int .u32 va, .int .i64 n] w fun e w' => e = .returned (.tuple #[.slice none 0 0, .int .i64 1]) ∧ Mod No w w' := by
  have HP := Lib.hid (pplaces_bad root va n false w h h0 h1 hb hn)
  clear h hb
  go_enter Tryd.func17, Tryd.ntmps17
  go_wp2_with fail
  refine HP.out.mono ?_
  rintro e w1 ⟨rfl, hm1⟩
  go_wp2
  go_ret2
  exact ⟨rfl, hm1⟩

theorem take_map_succ {S : List Fr} {l : List (Int × Int)} {j : Nat} {p : Int × Int} (h : l[j]? = some p) : (l.take (j + 1)).map (byteAt S) = (l.take j).map (byteAt S) ++ [byteAt S p] := by
  rw [List.take_add_one, h]; simp

set_option maxHeartbeats 8000000 in
theorem fetch_in {B F : Nat} {S : List Fr} (root va : Int) (N : Nat) (w : World) (h : PhM w B F S) (h0 : 0 ≤ va) (hN : N ≤ 256) (hv : 1 ≤ N → va + N ≤ 1048576) :
    Calls Tryd.prog 17 #[.pointer (some ⟨B, 0, none⟩), .int .i64 root, .int .u32 va, .int .i64 (N : Int)] w (FetchPost S root va N w) := by
  have HP := Lib.hid (pplaces_any root va N false w h h0 hN hv)
  have HH := Lib.hid h
  have hok := h.ok
  clear h hv
  go_enter Tryd.func17, Tryd.ntmps17
  go_wp2_with fail
  refine HP.out.mono ?_
  rintro e w1 ⟨hm1, ⟨he, rfl⟩ | ⟨he, q, c, rfl, hown⟩⟩
  · have HM1 := Lib.hid hm1
    have HE := Lib.hid he
    obtain ⟨er, her⟩ : ∃ er, er = errTo S root va false N := ⟨_, rfl⟩
    rw [← her]
    rw [← her] at he
    have HER := Lib.hid her
    clear her hm1
    have d1 : (er == 0) = false := beq_eq_false_iff_ne.2 he
    have d2 : (er != 0) = true := bne_iff_ne.2 he
    go_wp2_with fail
    go_ret2
    exact ⟨HM1.out, .inl ⟨HE.out, by rw [← HER.out]; rfl⟩⟩
  · have HM1 := Lib.hid hm1
    have HE := Lib.hid he
    have HOWN := Lib.hid hown
    clear hm1 he hown HP
    go_wp2_with fail
    go_loopw [12, 30] (fun u iv wr => ∃ (j : Nat), j ≤ N ∧ iv = .int .i64 j ∧ (∃ q2 c2, u = .slice q2 j c2) ∧ wr.ownsRow w1.heap.size 5 1 u j ((((plcs S root va false N).take j).map (byteAt S)).map (Value.int .u8)) ∧ Mod No w1 wr) (fun _ iv _ => N - (intOf iv).toNat)
    case atStart => exact ⟨0, Nat.zero_le _, rfl, ⟨_, _, rfl⟩, World.ownsRow_nil _ _ _ _, Mod.refl _ _⟩
    case round =>
      obtain ⟨j, hj, rfl, ⟨q2, c2, rfl⟩, hu, hm⟩ := hrel
      have HU := Lib.hid hu
      have HM := Lib.hid hm
      clear hu hm
      by_cases hlt : j < N
      · have hlt' : (j : Int) < N := by omega
        obtain ⟨p, hp⟩ : ∃ p, (plcs S root va false N)[j]? = some p := ⟨_, List.getElem?_eq_getElem (by rw [plcs_len]; exact hlt)⟩
        have hin := plcs_in hok HE.out p (List.mem_of_getElem? hp)
        have hownr := own_mod HOWN.out HM.out (fun _ _ q => q)
        obtain ⟨g, rfl, hNc, hbg, hglt, x0, x1⟩ := pl_item hownr j p hp
        have HIN := Lib.hid hin
        have HPP := Lib.hid hp
        have HRD : Hid (∀ w', Mod No wr w' → Calls Tryd.prog 7 #[.pointer (some ⟨B, 0, none⟩), .int .i64 p.1, .int .i64 p.2, .int .i64 1] w' fun e w2 => e = .returned (.tuple #[.slice (some ⟨w'.heap.size, 0, none⟩) 1 1, .int .i64 0]) ∧ Mod No w' w2 ∧ w'.heap.size < w2.heap.size ∧ w2.heap[w'.heap.size]? = some (.cells #[.int .u8 (byteAt S p)] 5 (0, 0))) :=
          fun w' hm' => read_one p w' (((HH.out.kept HM1.out (fun q => q) (fun q => q)).kept HM.out (fun q => q) (fun q => q)).kept hm' (fun q => q) (fun q => q)) HIN.out
        clear hin hownr hp
        obtain ⟨p1, p2⟩ := p
        dsimp only at x0 x1 HRD
        have hal : Mod No wr (wr.alloc (.cells #[.int .i64 p1, .int .i64 p2] 103)) := (Mod.refl No wr).alloc _
        have HAL := Lib.hid hal
        clear hal
        go_wp2_with fail
        refine (HRD.out _ HAL.out).mono ?_
        rintro e w5 ⟨rfl, hm5, _, hg5⟩
        have hm15 : Mod No wr w5 := HAL.out.trans hm5
        have HM15 := Lib.hid hm15
        have HU5 := Lib.hid (own_mod HU.out hm15 (fun _ _ q => q))
        rw [World.size_alloc] at hg5
        have HG5 := Lib.hid hg5
        have HB5 : Hid (w1.heap.size ≤ w5.heap.size) := (HM.out.trans hm15).size
        clear hm5 hg5 hm15
        go_wp2_with (at_builtin; refine wpList_append_u81 rfl _ _ rfl w1.heap.size (.slice q2 j c2) j _ rfl HU5.out (wr.heap.size + 1) (byteAt S (p1, p2)) 1 rfl HG5.out (by omega) HB5.out ?_; intro v' w7 hown7 hgr7; obtain ⟨q7, c7, rfl⟩ := owns_slice hown7; have HG7 := Lib.hid hgr7; have HO7 := Lib.hid hown7; clear hown7 hgr7)
        have hfin : w7.ownsRow w1.heap.size 5 1 (.slice q7 (j + 1) c7) (j + 1) ((((plcs S root va false N).take (j + 1)).map (byteAt S)).map (Value.int .u8)) ∧ Mod No w1 w7 := by
          refine ⟨by rw [take_map_succ HPP.out]; exact HO7.out, (HM.out.trans HM15.out).step (mod_grown HG7.out) (fun i hi e => ?_)⟩
          have := (HU5.out.lt i e.symm).1
          omega
        have HFIN := Lib.hid hfin
        clear hfin
        go_roundw
        case rel => exact ⟨j + 1, by omega, by go_num, ⟨_, _, rfl⟩, HFIN.out⟩
        case measure => simp [intOf]; omega
      · obtain rfl : j = N := by omega
        go_wp2_with fail
        go_ret2
        refine ⟨HM1.out.trans HM.out, .inr ⟨HE.out, q2, c2, rfl, ?_⟩⟩
        have := HU.out
        rw [List.take_of_length_le (by rw [plcs_len]; exact Nat.le_refl _)] at this
        exact ownsRow_base this HM1.out.size

end Go.Proofs.YtlbebneblmgdcaaDoor

/- tenementref04.Fetch. -/
namespace Go.Proofs.YtlbebneblmgdcaaDoor
open Go.RowKit
set_option maxRecDepth 100000

theorem byteAt_nat {S : List Fr} {m o : Nat} {f : Fr} (hf : S[m]? = some f) (hl : o < f.bytes.length) : f.bytes[o]? = some (byteAt S ((m : Int), (o : Int))) := by
  unfold byteAt
  simp only [Int.toNat_natCast]
  rw [hf]
  simp only
  rw [List.getD_eq_getElem?_getD, List.getElem?_eq_getElem hl]
  rfl

end Go.Proofs.YtlbebneblmgdcaaDoor

/- pte.Store. -/
namespace Go.Proofs.YtlbebneblmgdcaaDoor
open Go.RowKit
set_option maxRecDepth 100000

theorem store_bad {B F : Nat} {S : List Fr} (root va : Int) (q : Option Addr) (n c : Nat) (w : World) (h : PhM w B F S) (h0 : 0 ≤ va) (h1 : va ≤ 4294967295) (hb : badN va n) (hn : n < 9223372036854775808) :
    Calls Tryd.prog 74 #[.pointer (some ⟨B, 0, none⟩), .int .i64 root, .int .u32 va, .slice q n c] w fun e w' => e = .returned (.int .i64 1) ∧ Mod No w w' := by
  have HP := Lib.hid (pplaces_bad root va n true w h h0 h1 hb (by omega))
  clear h hb
  go_enter Tryd.func74, Tryd.ntmps74
  go_wp2_with fail
  refine HP.out.mono ?_
  rintro e w1 ⟨rfl, hm1⟩
  go_wp2
  go_ret
  exact ⟨rfl, hm1⟩

def StorePost (B F : Nat) (S : List Fr) (root va : Int) (bs : List Int) (w : World) (e : Ending) (w' : World) : Prop :=
  (errTo S root va true bs.length ≠ 0 ∧ e = .returned (.int .i64 (errTo S root va true bs.length)) ∧ Mod No w w' ∧ PhM w' B F S) ∨
  (errTo S root va true bs.length = 0 ∧ e = .returned (.int .i64 0) ∧ Mod (One F) w w' ∧ PhM w' B F (putsTo (plcs S root va true bs.length) bs S bs.length))

theorem puts_step {pl : List (Int × Int)} {bs : List Int} {S : List Fr} {j : Nat} {p : Int × Int} {x : Int} (hp : pl[j]? = some p) (hx : bs[j]? = some x) : putsTo pl bs S (j + 1) = put1 (putsTo pl bs S j) p x := by
  rw [putsTo, List.getD_eq_getElem?_getD, List.getD_eq_getElem?_getD, hp, hx]; rfl

set_option maxHeartbeats 8000000 in
theorem store_in {B F : Nat} {S : List Fr} (root va : Int) (q : Option Addr) (bs : List Int) (c : Nat) (w : World) (h : PhM w B F S) (h0 : 0 ≤ va) (hN : bs.length ≤ 256) (hv : 1 ≤ bs.length → va + bs.length ≤ 1048576)
    (hb : Byt w q bs c) (hF : ∀ b off, 0 < bs.length → q = some ⟨b, off, none⟩ → b ≠ F) :
    Calls Tryd.prog 74 #[.pointer (some ⟨B, 0, none⟩), .int .i64 root, .int .u32 va, .slice q bs.length c] w (StorePost B F S root va bs w) := by
  have HP := Lib.hid (pplaces_any root va bs.length true w h h0 hN hv)
  have HH := Lib.hid h
  have HBY := Lib.hid hb
  have hok := h.ok
  have hfit := hb.fit
  clear h hv hb
  go_enter Tryd.func74, Tryd.ntmps74
  go_wp2_with fail
  refine HP.out.mono ?_
  rintro e w1 ⟨hm1, ⟨he, rfl⟩ | ⟨he, q1, c1, rfl, hown⟩⟩
  · have HM1 := Lib.hid hm1
    have HE := Lib.hid he
    obtain ⟨er, her⟩ : ∃ er, er = errTo S root va true bs.length := ⟨_, rfl⟩
    rw [← her] at he
    rw [← her]
    have HER := Lib.hid her
    clear her hm1
    have d1 : (er == 0) = false := beq_eq_false_iff_ne.2 he
    have d2 : (er != 0) = true := bne_iff_ne.2 he
    go_wp2_with fail
    go_ret
    exact .inl ⟨HE.out, by rw [← HER.out]; rfl, HM1.out, HH.out.kept HM1.out (fun q => q) (fun q => q)⟩
  · have HM1 := Lib.hid hm1
    have HE := Lib.hid he
    have HOWN := Lib.hid hown
    clear hm1 he hown HP
    go_wp2_with fail
    go_loopw [27] (fun iv wr => ∃ (j : Nat), j ≤ bs.length ∧ iv = .int .i64 j ∧ PhM wr B F (putsTo (plcs S root va true bs.length) bs S j) ∧ Mod (One F) w1 wr) (fun iv _ => bs.length - (intOf iv).toNat)
    case atStart => exact ⟨0, Nat.zero_le _, rfl, HH.out.kept HM1.out (fun q => q) (fun q => q), Mod.refl _ _⟩
    case round =>
      obtain ⟨j, hj, rfl, hP, hm⟩ := hrel
      have HPH := Lib.hid hP
      have HM := Lib.hid hm
      clear hP hm
      by_cases hlt : j < bs.length
      · have hlt' : (j : Int) < bs.length := by omega
        obtain ⟨p, hp⟩ : ∃ p, (plcs S root va true bs.length)[j]? = some p := ⟨_, List.getElem?_eq_getElem (by rw [plcs_len]; exact hlt)⟩
        obtain ⟨x, hx⟩ : ∃ x, bs[j]? = some x := ⟨_, List.getElem?_eq_getElem hlt⟩
        have hin := (plcs_in hok HE.out p (List.mem_of_getElem? hp)).of (putsTo_len (plcs S root va true bs.length) bs S j)
        obtain ⟨g0, rfl, hNc0, hbg0, hglt0, _, _⟩ := pl_item HOWN.out j p hp
        have hlF := HH.out.ltF
        have hgF : g0 ≠ F := by omega
        obtain ⟨g, e1, hNc, hbg, hglt, x0, x1⟩ := pl_item (own_mod HOWN.out HM.out (fun i hi (e : i = F) => by simp [Value.ownBlock] at hi; omega)) j p hp
        cases e1
        obtain ⟨b, off, rfl, hblt, hcell⟩ := HBY.out.at_ (by omega)
        have hbF := hF b off (by omega) rfl
        have hcx : wr.cell? ⟨b, off + j, none⟩ = some (.int .u8 x) := (World.cell?_of_block (w := w1) (HM.out.block b (Nat.lt_of_lt_of_le hblt HM1.out.size) hbF)).trans ((World.cell?_of_block (w := w) (HM1.out.block b hblt (fun q => q))).trans (hcell j x hx))
        have hrx := HBY.out.range x (List.mem_of_getElem? hx)
        have HWR : Hid (∀ w' cc, Mod No wr w' → Calls Tryd.prog 15 #[.pointer (some ⟨B, 0, none⟩), .int .i64 p.1, .int .i64 p.2, .slice (some ⟨b, off + j, none⟩) 1 cc] w' fun e w2 => (∃ r, e = .returned (.int .i64 r)) ∧ Mod (One F) w' w2 ∧ PhM w2 B F (putsTo (plcs S root va true bs.length) bs S (j + 1))) := by
          intro w' cc hm'
          rw [puts_step hp hx]
          refine write_one p x (some ⟨b, off + j, none⟩) cc w' (HPH.out.kept hm' (fun q => q) (fun q => q)) hin ⟨fun y hy => by rw [List.mem_singleton.1 hy]; exact hrx, fun _ => ⟨_, rfl, fun i y hi => ?_⟩⟩
          have hi0 : i = 0 := by have := (List.getElem?_eq_some_iff.1 hi).1; simpa using this
          subst hi0
          simp at hi
          rw [Addr.add_lit, Nat.add_zero, ← hi]
          exact (World.cell?_of_block (w := wr) (hm'.block b (World.block_lt_of_cell? wr _ hcx) (fun q => q))).trans hcx
        obtain ⟨p1, p2⟩ := p
        dsimp only at x0 x1 HWR
        have hal : Mod No wr (wr.alloc (.cells #[.int .i64 p1, .int .i64 p2] 103)) := (Mod.refl No wr).alloc _
        have hz0 : (wr.alloc (.cells #[.int .i64 p1, .int .i64 p2] 103)).heap[wr.heap.size]? = some (.cells ([.int .i64 p1, .int .i64 p2] : List Value).toArray 103 (0, 0)) := heap_alloc_new wr _
        have hS1 : (fun w' : World => w'.cell? ⟨wr.heap.size, 0, none⟩ = some (.int .i64 p1) ∧ w'.cell? ⟨wr.heap.size, 1, none⟩ = some (.int .i64 p2)) (wr.alloc (.cells #[.int .i64 p1, .int .i64 p2] 103)) := ⟨row_cell hz0 0, row_cell hz0 1⟩
        have HNF : Hid (wr.heap.size ≠ F) := fun e => by have := HPH.out.ltF; omega
        have HAL := Lib.hid hal
        have b1 : (0 : Int) ≤ (j : Int) + 1 := by omega
        have b2 : ((j : Int) + 1).toNat = j + 1 := by omega
        have b3 : j + 1 - j = 1 := by omega
        have b4 : (j : Int) + 1 ≤ c := by omega
        have b5 : (j : Int) ≤ (j : Int) + 1 := by omega
        have b6 : IntKind.i64.wrap ((j : Int) + 1) = (j : Int) + 1 := IntWalk.i64_in _ (by omega)
        have b7 : c ≠ j := by omega
        have b8 : (j : Int) ≤ c := by omega
        have hlb := World.block_lt_of_cell? wr _ hcx
        clear hp hx hin hcell hz0 hal hcx hrx
        go_upto_region 7 with (fail)
        go_region_held3 (fun w' : World => w'.cell? ⟨wr.heap.size, 0, none⟩ = some (.int .i64 p1) ∧ w'.cell? ⟨wr.heap.size, 1, none⟩ = some (.int .i64 p2)) (first | exact hS1 | assumption) ((go_at_call 15; refine (HWR.out _ _ HAL.out.drew).mono ?_; rintro e w4 ⟨⟨r, rfl⟩, hm4, hP4⟩; have hS4 : (fun w' : World => w'.cell? ⟨wr.heap.size, 0, none⟩ = some (.int .i64 p1) ∧ w'.cell? ⟨wr.heap.size, 1, none⟩ = some (.int .i64 p2)) w4 := ⟨(World.cell?_of_block (w := (wr.alloc (.cells #[.int .i64 p1, .int .i64 p2] 103))) (hm4.block wr.heap.size (by simp) HNF.out)).trans hS1.1, (World.cell?_of_block (w := (wr.alloc (.cells #[.int .i64 p1, .int .i64 p2] 103))) (hm4.block wr.heap.size (by simp) HNF.out)).trans hS1.2⟩; have HM4 := Lib.hid hm4; have HP4 := Lib.hid hP4; clear hm4 hP4))
        all_goals go_wp2_with fail
        all_goals go_roundw
        all_goals first
          | exact ⟨j + 1, by omega, by go_num, HP4.out, (HM.out.trans (Mod.of_no HAL.out.drew)).trans HM4.out⟩
          | (simp [intOf]; omega)
      · obtain rfl : j = bs.length := by omega
        go_wp2_with fail
        go_ret
        exact .inr ⟨HE.out, rfl, (Mod.of_no HM1.out).trans HM.out, HPH.out⟩

end Go.Proofs.YtlbebneblmgdcaaDoor

/- tenementref04.Store. -/
namespace Go.Proofs.YtlbebneblmgdcaaDoor
open Go.RowKit
set_option maxRecDepth 100000

def RStorePost (K : RfK) (S : List Fr) (root va : Int) (bs : List Int) (w : World) (e : Ending) (w' : World) : Prop :=
  (errTo S root va true bs.length ≠ 0 ∧ e = .returned (.int .i64 (errTo S root va true bs.length)) ∧ Mod No w w' ∧ RfM w' K S) ∨
  (errTo S root va true bs.length = 0 ∧ e = .returned (.int .i64 0) ∧ Mod K.inn w w' ∧ RfM w' K (putsTo (plcs S root va true bs.length) bs S bs.length))

end Go.Proofs.YtlbebneblmgdcaaDoor

/- Fetch and Store: one answer for the code and the document. -/
namespace Go.Proofs.YtlbebneblmgdcaaDoor
open Go.RowKit
set_option maxRecDepth 100000

/-- An own row of bytes is bytes that may be read. -/
theorem Byt.ofOwn {w : World} {base : Nat} {q : Option Addr} {n c : Nat} {bs : List Int} (h : w.ownsRow base 5 1 (.slice q n c) n (bs.map (Value.int .u8))) (hr : ∀ x ∈ bs, 0 ≤ x ∧ x ≤ 255) (hl : bs.length ≤ 140737488355328) :
    n = bs.length ∧ Byt w q bs c ∧ (∀ b off, q = some ⟨b, off, none⟩ → base ≤ b ∧ b < w.heap.size) := by
  have hn := h.1
  simp at hn
  rcases h.2 with ⟨e, h2⟩ | ⟨g, cap, cur, e, hg, hrow, hc, hm, hs, ht⟩
  · cases e
    obtain rfl : bs = [] := List.eq_nil_of_length_eq_zero (by omega)
    exact ⟨rfl, ⟨hr, Nat.le_refl _, hl, fun _ => ⟨rfl, rfl⟩, fun q => absurd q (by simp)⟩, fun b off q => by cases q⟩
  · cases e
    refine ⟨hn.symm, ⟨hr, (by omega), hl, (fun q => by cases q), fun _ => ⟨g, 0, rfl, lt_of_blk hrow, fun j x hj => ?_⟩⟩, (fun b off q => by cases q; exact ⟨hg, lt_of_blk hrow⟩)⟩
    have := h.cells (g := g) rfl j (.int .u8 x) (by rw [List.getElem?_map, hj]; rfl)
    rw [Addr.add_lit] at this
    exact this

def OwnB (w : World) (er : Int) (bs : List Int) (e : Ending) (w' : World) : Prop := ∃ q k c, e = .returned (.tuple #[.slice q k c, .int .i64 er]) ∧ Mod No w w' ∧ w'.ownsRow w.heap.size 5 1 (.slice q k c) k (bs.map (Value.int .u8))

theorem not_bad {va n : Int} (h : ¬ badN va n) : ∃ N : Nat, n = N ∧ N ≤ 256 ∧ (1 ≤ N → va + N ≤ 1048576) := by
  unfold badN at h
  refine ⟨n.toNat, by omega, by omega, fun q => by omega⟩

end Go.Proofs.YtlbebneblmgdcaaDoor
