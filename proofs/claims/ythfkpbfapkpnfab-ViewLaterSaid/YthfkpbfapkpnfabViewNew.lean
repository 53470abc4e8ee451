/- view.New. -/
import Derived.Test.YthfkpbfapkpnfabViewOps
import Derived.Test.YthfkpbfapkpnfabPhysNew
import Derived.Test.YthfkpbfapkpnfabPhysOwned
import Derived.Carry
import Derived.Deep.RegionLaw
import Derived.Deep.DeepCutAuto
import Derived.Deep.CutRange
import Derived.Deep.CutBlock
import Derived.Outline
import Derived.Laws.AppendOwnNone
namespace Go.Proofs.Ythfkpbfapkpnfab
open Go.RowKit Go.Maps
set_option maxRecDepth 100000

theorem vnew_none {p : Option Addr} (q : Option Addr) (n c : Nat) (w : World) (h : NoM w p) :
    Calls Try.prog 34 #[.pointer p, .slice q n c] w fun e w' => e = .returned (.tuple #[.pointer none, .int .i64 7]) ∧ w = w' := by
  go_enter Try.func34, Try.ntmps34
  go_wp2_with (go_at_call 24; refine (size_none _ h).mono ?_; rintro e w' ⟨rfl, rfl⟩)
  go_ret2
  exact ⟨rfl, rfl⟩

theorem vnew_long {B F : Nat} {S : List Fr} (q : Option Addr) (n c : Nat) (w : World) (h : PhM w B F S) (hn : 64 < n) (hn2 : n ≤ 140737488355328) :
    Calls Try.prog 34 #[.pointer (some ⟨B, 0, none⟩), .slice q n c] w fun e w' => e = .returned (.tuple #[.pointer none, .int .i64 2]) ∧ w = w' := by
  have hlen := h.len
  have ds : ((S.length : Int) == 0) = false := beq_eq_false_iff_ne.2 (by omega)
  have d1 : decide ((64 : Int) < n) = true := decide_eq_true (by omega)
  have d2 : decide (64 < n) = true := decide_eq_true (by omega)
  go_enter Try.func34, Try.ntmps34
  go_wp2_with (go_at_call 24; refine (size_made _ h).mono ?_; rintro e w' ⟨rfl, rfl⟩)
  go_ret2
  exact ⟨rfl, rfl⟩

/-- append onto an own row, as a step of a region that draws its order; told: where the new row lies. -/
theorem step_append_at {P : Program} {ops : Array Oper} {o : Oper} {a : Act} {w : World} {K : Act → World → Prop} {Q : Exit → Act → World → Prop} {E : Prop}
    (hg : o.guard = none) (s x : Operand) (t : TypeId) (hop : o.op = Op.call { callee := Callee.builtin Builtin.append, args := #[s, x], argTypes := #[t, t] })
    (base : Nat) (e : TypeId) (i : TypeInfo) (z : Value) (size bytes : Nat) (h1 : P.underlying t = some (.slice e)) (h2 : P.info? e = some i) (h3 : i.zero = some z) (h4 : i.size = size) (h5 : i.bytes = bytes) (h6 : z.cells.size = size) (h7 : 0 < size)
    (v : Value) (n : Nat) (xs : List Value) (hs : a.eval s = v) (hown : w.ownsRow base e size v n xs)
    (ad : Addr) (m c : Nat) (news : List Value) (hx : a.eval x = .slice (some ad) m c) (hn : news.length = m * size) (hc : ∀ j u, news[j]? = some u → w.cell? (ad.add j) = some u) (h1c : ∀ u ∈ news, u.oneCell' = true)
    (b1 : n + m ≤ maxLen) (b2 : (n + m) * bytes ≤ 140737488355328) (hbase : base ≤ w.heap.size)
    (hK : ∀ v' w', w'.ownsRow base e size v' (n + m) (xs ++ news) → w.grownBy w' v.ownBlock → (v'.ownBlock = v.ownBlock ∨ v'.ownBlock = some w.heap.size) → K (a.put o.dst v') w') :
    if Region.wanted o (yielded ops a.tmps) = true then Oper.wp P o a w K Q else E := by
  have hw : Region.wanted o (yielded ops a.tmps) = true := by simp [Region.wanted, hg]
  rw [if_pos hw]
  obtain ⟨v', w', hrun, r1, r2, _, r3⟩ := run_append_own_at (P := P) w base t o.type e i z size bytes h1 h2 h3 h4 h5 h6 h7 v n xs hown ad m c news hn hc h1c b1 b2 hbase
  unfold Oper.wp
  simp [execOp, hop, resolve, invoke, builtin, hs, hx, hrun, Result.andThen]
  exact hK v' w' r1 r2 r3

theorem Try.infoFunc : (Try.prog.info? 1).map (fun i => (i.zero, i.size, i.bytes)) = some (some .nilFunc, 1, 8) := by kernel_rfl

theorem dueAt_snoc (l : List Pk) (i : Nat) (p : Pk) (t : Int) (h : l[i]? = some p) : dueAt (l.take (i + 1)) t = if t = p.at_ then dueAt (l.take i) t ++ [p] else dueAt (l.take i) t := by
  unfold dueAt
  rw [List.take_add_one, h, List.filter_append]
  split
  · rename_i e; subst e; simp
  · rename_i e
    have : (p.at_ == t) = false := beq_eq_false_iff_ne.2 (fun q => e q.symm)
    simp [this]

/-- One rewrite more. -/
theorem ViM.more {w w3 w5 w6 : World} {base top i : Nat} {k : ViK} {B : Nat} {l : List Pk} {p : Pk} {nd : Nat} {D D' : DataW Unit} {sl : Int → Value} {cl : Int → List Value} {v' c : Value} (h : ViM w base top k B 0 (l.take i)) (hp : l[i]? = some p)
    (hd : Due Try.prog 3 w k.D (k.D + 1) 1 nd D sl cl) (hnd : nd ≤ (l.take i).length) (htop : ∀ t j, (sl t).ownBlock = some j → j < top) (hcl : ∀ t, (cl t).length = (dueAt (l.take i) t).length ∧ ∀ (j : Nat) p v, (dueAt (l.take i) t)[j]? = some p → (cl t)[j]? = some v → IsClo w base top k.vb p v)
    (ht : top = w.heap.size) (hm3 : Mod No w w3) (hg5 : w3.grownBy w5 (sl p.at_).ownBlock) (hv5 : ∀ j, v'.ownBlock = some j → j < w5.heap.size)
    (hd6 : Due Try.prog 3 w6 k.D (k.D + 1) 1 (nd + 1) D' (fun j => if j = p.at_ then v' else sl j) (fun j => if j = p.at_ then cl p.at_ ++ [c] else cl j)) (hg6 : w5.grownBy w6 (some k.D))
    (hc : IsClo w3 base w3.heap.size k.vb p c) (hr : ∀ x ∈ p.bs, 0 ≤ x ∧ x ≤ 255) : ViM w6 base w6.heap.size k B 0 (l.take (i + 1)) := by
  have hs3 := hm3.size
  have hs5 := hg5.size
  have hs6 := hg6.size
  have hbD := h.d.rng.2.2.2.2.1
  have hrow : ∀ j, (sl p.at_).ownBlock = some j → ∃ cur, w.heap[j]? = some (.cells cur 1 (0, 0)) := fun j hj => own_some (hd.row p.at_) hj
  have hm35 : Mod (fun j => some j = (sl p.at_).ownBlock) w3 w5 := (Mod.refl _ w3).grown hg5 (fun j ej _ => ej.symm)
  have hm56 : Mod (fun j => j = k.D) w5 w6 := (Mod.refl _ w5).grown hg6 (fun j ej _ => (Option.some.inj ej).symm)
  have hm : Mod (fun j => some j = (sl p.at_).ownBlock ∨ j = k.D) w w6 := ((Mod.of_no hm3).trans (hm35.mono (fun _ _ q => .inl q))).trans (hm56.mono (fun _ _ q => .inr q))
  have hmap : ∃ es ck, w.heap[k.D]? = some (.map es ck) := by obtain ⟨es, ck, hb, _⟩ := hd.map; exact ⟨es, ck, hb⟩
  have hks : KeepsS (fun j => some j = (sl p.at_).ownBlock ∨ j = k.D) w base top := by
    rintro j o h1 h2 h3 ⟨cs, t, fz, rfl, _, h5⟩ (q | q)
    · obtain ⟨cur, hcur⟩ := hrow j q.symm
      rw [hcur] at h3
      simp only [Option.some.injEq, Obj.cells.injEq] at h3
      exact h5 h3.2.1.symm
    · obtain ⟨es, ck, hb⟩ := hmap
      rw [q, hb] at h3; cases h3
  have hks3 : KeepsS (fun j => some j = (sl p.at_).ownBlock ∨ j = k.D) w3 base w3.heap.size := by
    rintro j o h1 h2 h3 ⟨cs, t, fz, rfl, _, h5⟩ (q | q)
    · obtain ⟨cur, hcur⟩ := hrow j q.symm
      have hcur := hm3.blk hcur (fun q => q)
      rw [hcur] at h3
      simp only [Option.some.injEq, Obj.cells.injEq] at h3
      exact h5 h3.2.1.symm
    · obtain ⟨es, ck, hb⟩ := hmap
      have hb := hm3.blk hb (fun q => q)
      rw [q, hb] at h3; cases h3
  have hm36 : Mod (fun j => some j = (sl p.at_).ownBlock ∨ j = k.D) w3 w6 := (hm35.mono (fun _ _ q => .inl q)).trans (hm56.mono (fun _ _ q => .inr q))
  have hc6 : IsClo w6 base w6.heap.size k.vb p c := (hc.kept hm36 hks3).more (by omega)
  have hrng := h.d.rng
  refine ⟨hm.blk h.head ?_, ⟨hm.blk h.d.box (hks _ _ hrng.2.2.1 hrng.2.2.2.1 h.d.box (soft_cells (by decide) (by decide))), ⟨hrng.1, by omega, hrng.2.2.1, by omega, hrng.2.2.2.2.1, by omega⟩, h.d.ne, ?_, nd + 1, D', _, _, hd6, ?_, ?_, ?_⟩⟩
  · rintro (q | q)
    · obtain ⟨cur, hcur⟩ := hrow _ q.symm
      have := h.head
      rw [hcur] at this
      simp at this
    · obtain ⟨es, ck, hb⟩ := hmap
      have := h.head
      rw [q, hb] at this; cases this
  · intro p' hp'
    rw [List.take_add_one, hp] at hp'
    rcases List.mem_append.1 hp' with q | q
    · exact h.d.range p' q
    · simp at q; rw [q]; exact hr
  · rw [List.take_add_one, hp]; simp; simp at hnd; omega
  · intro t j hj
    split at hj
    · have := hv5 j hj; omega
    · have := htop t j hj; omega
  · intro t
    have hsn := dueAt_snoc l i p t hp
    by_cases e : t = p.at_
    · subst e
      rw [if_pos rfl] at hsn
      rw [hsn]
      simp only [if_true]
      refine ⟨by simp [(hcl p.at_).1], ?_⟩
      intro j q v hq hv
      by_cases hj : j < (dueAt (l.take i) p.at_).length
      · rw [List.getElem?_append_left hj] at hq
        rw [List.getElem?_append_left (by rw [(hcl p.at_).1]; exact hj)] at hv
        exact (((hcl p.at_).2 j q v hq hv).kept hm hks).more (by omega)
      · rw [List.getElem?_append_right (by omega)] at hq
        rw [List.getElem?_append_right (by rw [(hcl p.at_).1]; omega), (hcl p.at_).1] at hv
        have hj0 : j - (dueAt (l.take i) p.at_).length = 0 := by
          have := (List.getElem?_eq_some_iff.1 hq).1
          simp at this; omega
        rw [hj0] at hq hv
        simp at hq hv
        rw [← hq, ← hv]; exact hc6
    · rw [if_neg e] at hsn
      rw [hsn, if_neg e]
      exact ⟨(hcl t).1, fun j q v hq hv => (((hcl t).2 j q v hq hv).kept hm hks).more (by omega)⟩

/-- append of bytes that came in, nil too, onto a row of the call's own. -/
theorem wpList_append_byt {w : World} {ops : Array Oper} {rest : List Oper} {o : Oper} {a : Act} {Q : Exit → Act → World → Prop} (hgd : o.guard = none) (s x : Operand)
    (ho : o.op = .call { callee := .builtin .append, args := #[s, x], argTypes := #[33, 33] }) (base : Nat) (v : Value) (xs : List Int) (hs : a.eval s = v) (hown : w.ownsRow base 5 1 v xs.length (xs.map (Value.int .u8)))
    (q : Option Addr) (bs : List Int) (c : Nat) (hx : a.eval x = .slice q bs.length c) (hb : Byt w q bs c) (hlen : xs.length + bs.length ≤ 140737488355328) (hbase : base ≤ w.heap.size)
    (h : ∀ v' w', w'.ownsRow base 5 1 v' (xs ++ bs).length ((xs ++ bs).map (Value.int .u8)) → w.grownBy w' v.ownBlock → wpList Try.prog ops Q rest (a.put o.dst v') w') : wpList Try.prog ops Q (o :: rest) a w := by
  obtain ⟨u0, hu, hu0, hu1, hu2⟩ := info_parts Try.infoU8
  cases q with
  | none =>
    obtain ⟨rfl, rfl⟩ := hb.nil rfl
    refine wpList_append_own_none hgd s x 33 ho base 5 u0 1 Try.underlying33 hu v xs.length _ hs hown hx ?_
    refine h v w (by simpa using hown) ⟨rfl, rfl, rfl, Nat.le_refl _, fun _ _ _ => rfl⟩
  | some ad =>
    refine wpList_append_own w hgd s x 33 ho base 5 u0 (.int .u8 0) 1 1 Try.underlying33 hu hu0 hu1 hu2 rfl (by decide) v xs.length _ hs hown ad bs.length c (bs.map (Value.int .u8)) hx (by simp) ?_ (oneCell_u8 _) (by unfold maxLen; omega) (by omega) hbase ?_
    · intro j u hj
      rw [List.getElem?_map] at hj
      obtain ⟨y, hy, rfl⟩ := Option.map_eq_some_iff.1 hj
      have hjl := (List.getElem?_eq_some_iff.1 hy).1
      obtain ⟨ad', e, hc⟩ := hb.src.cells (by omega)
      cases e
      exact hc j y hy
    · intro v' w' h1 h2 _
      exact h v' w' (by simpa using h1) h2

theorem ViM.begun (B : Nat) (w : World) : ViM (((w.alloc (.map #[] 0)).alloc (.cells #[.pointer (some ⟨B, 0, none⟩), .map (some w.heap.size), .int .i64 0] 138)).alloc (.cells #[.pointer (some ⟨w.heap.size + 1, 0, none⟩)] 64))
    w.heap.size (w.heap.size + 3) ⟨w.heap.size + 1, w.heap.size + 1 + 1, w.heap.size⟩ B 0 [] := by
  have e1 := heap_alloc_new (w.alloc (.map #[] 0)) (.cells #[.pointer (some ⟨B, 0, none⟩), .map (some w.heap.size), .int .i64 0] 138)
  have e2 := heap_alloc_new ((w.alloc (.map #[] 0)).alloc (.cells #[.pointer (some ⟨B, 0, none⟩), .map (some w.heap.size), .int .i64 0] 138)) (.cells #[.pointer (some ⟨w.heap.size + 1, 0, none⟩)] 64)
  rw [World.size_alloc] at e1
  rw [World.size_alloc, World.size_alloc] at e2
  refine ⟨blk_alloc e1 _, ⟨e2, ⟨by simp only; omega, by simp only; omega, by simp only; omega, by simp only; omega, by simp only; omega, by simp only; omega⟩, by simp only; omega, by simp, 0, .map [], fun _ => .slice none 0 0, fun _ => [], ?_, Nat.le_refl _, ?_, fun t => ⟨rfl, fun i p v hp => by simp [dueAt] at hp⟩⟩⟩
  · exact ((Due.made Try.prog 3 1 w).keptNo ((Mod.refl No _).alloc _)).keptNo ((Mod.refl No _).alloc _)
  · intro t i hi
    simp [Value.ownBlock] at hi

set_option maxHeartbeats 8000000 in
theorem vnew_in {B F : Nat} {S : List Fr} (q : Option Addr) (l : List Pk) (cap : Nat) (w : World) (h : PhM w B F S) (hs : PkS w q l) (hn : l.length ≤ 64) :
    Calls Try.prog 34 #[.pointer (some ⟨B, 0, none⟩), .slice q l.length cap] w fun e w' => ∃ k : ViK, e = .returned (.tuple #[.pointer (some ⟨k.V, 0, none⟩), .int .i64 0]) ∧ Mod No w w' ∧ ViM w' w.heap.size w'.heap.size k B 0 l := by
  have hlen := h.len
  have ds : ((S.length : Int) == 0) = false := beq_eq_false_iff_ne.2 (by omega)
  have d1 : decide ((64 : Int) < l.length) = false := decide_eq_false (by omega)
  have d2 : decide (64 < l.length) = false := decide_eq_false (by omega)
  have hmm := @run_makeMap Try.prog
  obtain ⟨i0, hi, hz0, hz1, hz2⟩ := info_parts Try.infoFunc
  obtain ⟨u0, hu, hu0, hu1, hu2⟩ := info_parts Try.infoU8
  have HS := Lib.hid hs
  have HSZ := Lib.hid (size_made w h)
  clear hs h
  go_enter Try.func34, Try.ntmps34
  go_wp2_with (go_at_call 24; refine HSZ.out.mono ?_; rintro e w' ⟨rfl, rfl⟩)
  have HV0 : Hid (ViM (((w.alloc (.map #[] 0)).alloc (.cells #[.pointer (some ⟨B, 0, none⟩), .map (some w.heap.size), .int .i64 0] 138)).alloc (.cells #[.pointer (some ⟨w.heap.size + 1, 0, none⟩)] 64)) w.heap.size _ ⟨w.heap.size + 1, w.heap.size + 1 + 1, w.heap.size⟩ B 0 []) := ViM.begun B w
  have HM0 : Hid (Mod No w (((w.alloc (.map #[] 0)).alloc (.cells #[.pointer (some ⟨B, 0, none⟩), .map (some w.heap.size), .int .i64 0] 138)).alloc (.cells #[.pointer (some ⟨w.heap.size + 1, 0, none⟩)] 64))) := (((Mod.refl No w).alloc _).alloc _).alloc _
  go_loopw [24] (fun v wr => ∃ i : Nat, i ≤ l.length ∧ v = .int .i64 i ∧ Mod No w wr ∧ ViM wr w.heap.size wr.heap.size ⟨w.heap.size + 1, w.heap.size + 1 + 1, w.heap.size⟩ B 0 (l.take i)) (fun v _ => l.length - (intOf v).toNat)
  case atStart => exact ⟨0, Nat.zero_le _, rfl, HM0.out, by simpa using HV0.out⟩
  case round =>
    clear HV0 HM0
    obtain ⟨i, hil, rfl, hm, hv⟩ := hrel
    by_cases hlt : i < l.length
    · obtain ⟨p, hp⟩ : ∃ p, l[i]? = some p := ⟨_, List.getElem?_eq_getElem hlt⟩
      obtain ⟨sb, so, rfl, _, c0, c1, c2, c3⟩ := (HS.out.kept hm).cellsAt hp
      have hok := HS.out.ok p (List.mem_of_getElem? hp)
      have hpw := hok.w_at_
      have hby := hok.b.kept hm
      obtain ⟨nd, D, sl, cl, hd, hnd, htop, hcl⟩ := hv.d.due
      obtain ⟨h0, h1, h2, h3⟩ := hv.c0
      have x0 := row_cell (l := [Value.pointer (some ⟨w.heap.size + 1, 0, none⟩)]) hv.d.box 0
      simp only [List.getElem?_cons_zero] at x0
      have hpb : (wr.alloc (.cells #[.int .i64 p.at_, .int .i64 p.mfn, .int .i64 p.off, .slice p.bq p.bs.length p.bc] 77)).heap[wr.heap.size]? = some (.cells p.cells.toArray 77 (0, 0)) := heap_alloc_new wr _
      have hby1 := hby.kept ((Mod.refl No wr).alloc (.cells #[.int .i64 p.at_, .int .i64 p.mfn, .int .i64 p.off, .slice p.bq p.bs.length p.bc] 77))
      have hbl := hby.len
      have hsz := hm.size
      have HV := Lib.hid hv
      have HM := Lib.hid hm
      have HD := Lib.hid hd
      have HCL := Lib.hid hcl
      have HTOP := Lib.hid htop
      have HND := Lib.hid hnd
      have HP := Lib.hid hp
      have HPB := Lib.hid hpb
      have HBY := Lib.hid hby1
      have HR := Lib.hid hby.range
      have HX := Lib.hid x0
      have HH1 := Lib.hid h1
      clear hv hm hd hcl htop hnd hp hpb hby hby1 hok x0 h0 h1 h2 h3
      go_upto_block 2 with (fail)
      go_cut [8, 9] from 26 to 47 (fun _ _ wx => Mod No w wx ∧ ViM wx w.heap.size wx.heap.size ⟨w.heap.size + 1, w.heap.size + 1 + 1, w.heap.size⟩ B 0 (l.take (i + 1)))
      case first =>
        go_upto_region 10 with (at_builtin; refine wpList_append_byt rfl _ _ rfl (w.heap.size) (.slice none 0 0) [] rfl (World.ownsRow_nil _ _ _ _) p.bq p.bs p.bc rfl HBY.out (by simpa using hbl) (by simp; omega) ?_; intro v' w2 hown2 hgrow2; rw [List.nil_append] at hown2; obtain ⟨g2, cap2, rfl⟩ := owns_slice hown2)
        obtain ⟨O2, hO2⟩ : ∃ O2 : Obj, O2 = .cells #[.slice g2 p.bs.length cap2] 33 := ⟨_, rfl⟩
        have hm2 : Mod No wr w2 := ((Mod.refl No wr).alloc _).grown hgrow2 (fun k e => by cases e)
        have hs2 := hgrow2.size
        rw [World.size_alloc] at hs2
        have hmW : Mod No wr (w2.alloc (.cells #[.slice g2 p.bs.length cap2] 33)) := hm2.alloc _
        have hvbW := hmW.blk HV.out.d.box (fun q => q)
        have hVW := hmW.blk HV.out.head (fun q => q)
        have hpW := (((Mod.refl No (wr.alloc (.cells #[.int .i64 p.at_, .int .i64 p.mfn, .int .i64 p.off, .slice p.bq p.bs.length p.bc] 77))).grown hgrow2 (fun k e => by cases e)).alloc (.cells #[.slice g2 p.bs.length cap2] 33)).blk HPB.out (fun q => q)
        have hbW : (w2.alloc (.cells #[.slice g2 p.bs.length cap2] 33)).heap[w2.heap.size]? = some (.cells #[.slice g2 p.bs.length cap2] 33 (0, 0)) := heap_alloc_new w2 _
        have y0 := row_cell (l := [Value.pointer (some ⟨w.heap.size + 1, 0, none⟩)]) hvbW 0
        have y1 := row_cell (l := [.pointer (some ⟨B, 0, none⟩), .map (some w.heap.size), .int .i64 0]) hVW 1
        have y2 := row_cell hpW 0
        simp only [Pk.cells, List.getElem?_cons_zero, List.getElem?_cons_succ] at y0 y1 y2
        have hdW := HD.out.keptNo hmW
        have hownW : (w2.alloc (.cells #[.slice g2 p.bs.length cap2] 33)).ownsRow w.heap.size 5 1 (.slice g2 p.bs.length cap2) p.bs.length (p.bs.map (Value.int .u8)) := hown2.alloc _
        have htopW : ∀ j, (Value.slice g2 p.bs.length cap2).ownBlock = some j → j < w2.heap.size := fun j hj => (hown2.lt j hj).2
        generalize hW : (w2.alloc (.cells #[.slice g2 p.bs.length cap2] 33)) = W at hmW hvbW hVW hpW hbW y0 y1 y2 hdW hownW ⊢
        have hWs : W.heap.size = w2.heap.size + 1 := by rw [← hW]; simp
        have hclo : IsClo W w.heap.size W.heap.size (w.heap.size + 1 + 1) p (cloVal (w.heap.size + 1 + 1) wr.heap.size w2.heap.size) :=
          ⟨wr.heap.size, w2.heap.size, g2, p.bs.length, cap2, rfl, by omega, by omega, hpW, hbW, hownW, fun j hj => by have := htopW j hj; omega, HR.out⟩
        have hmW2 : Mod No W (W.alloc (.cells #[cloVal (w.heap.size + 1 + 1) wr.heap.size w2.heap.size] 1)).drew := ((Mod.refl No W).alloc _).drew
        have hd2 := hdW.keptNo hmW2
        have hlk1 := (hdW.keptNo (Mod.refl No W).drew).look lawInt Try.underlying3 Try.underlying136 (zeroDue _) p.at_ hpw
        have hlk2 := hd2.look lawInt Try.underlying3 Try.underlying136 (zeroDue _) p.at_ hpw
        unfold cloVal at hlk2 hclo
        have hS1 : (fun w' : World => w'.cell? ⟨w.heap.size + 1 + 1, 0, none⟩ = some (.pointer (some ⟨w.heap.size + 1, 0, none⟩)) ∧ w'.cell? ⟨w.heap.size + 1, 1, none⟩ = some (.map (some w.heap.size)) ∧ w'.cell? ⟨wr.heap.size, 0, none⟩ = some (.int .i64 p.at_)) W := ⟨y0, y1, y2⟩
        have hcl0 : (cl p.at_).length ≤ 64 := by
          have h1 := (HCL.out p.at_).1
          have h2 : (dueAt (l.take i) p.at_).length ≤ (l.take i).length := List.length_filter_le _ _
          rw [List.length_take] at h2
          omega
        have hnd64 : nd ≤ 64 := by have := HND.out; rw [List.length_take] at this; omega
        have HD2 := Lib.hid hd2
        have HROW := Lib.hid (hd2.row p.at_)
        have HKLO := Lib.hid hclo
        have HMW := Lib.hid hmW
        have HMW2 := Lib.hid hmW2
        have hvr : w.heap.size + 1 + 1 < wr.heap.size := HV.out.d.rng.2.2.2.1
        have hvb4 := hmW2.blk hvbW (fun q => q)
        have hV4 := hmW2.blk hVW (fun q => q)
        have hp4 := hmW2.blk hpW (fun q => q)
        have hSA : (fun w' : World => w'.cell? ⟨w.heap.size + 1 + 1, 0, none⟩ = some (.pointer (some ⟨w.heap.size + 1, 0, none⟩)) ∧ w'.cell? ⟨w.heap.size + 1, 1, none⟩ = some (.map (some w.heap.size)) ∧ w'.cell? ⟨wr.heap.size, 0, none⟩ = some (.int .i64 p.at_)) (W.alloc (.cells #[(.func (.func 78) #[] #[.pointer (some ⟨w.heap.size + 1 + 1, 0, none⟩), .pointer (some ⟨wr.heap.size, 0, none⟩), .pointer (some ⟨w2.heap.size, 0, none⟩)])] 1)).drew :=
          ⟨(World.cell?_of_block (w := W) (hmW2.block _ (lt_of_blk hvbW) (fun q => q))).trans y0, (World.cell?_of_block (w := W) (hmW2.block _ (lt_of_blk hVW) (fun q => q))).trans y1, (World.cell?_of_block (w := W) (hmW2.block _ (lt_of_blk hpW) (fun q => q))).trans y2⟩
        have hb1 := blk_ne (hd2.row p.at_) hvb4 (by decide)
        have hb2 := blk_ne (hd2.row p.at_) hV4 (by decide)
        have hb3 := blk_ne (hd2.row p.at_) hp4 (by decide)
        have hl1 := lt_of_blk hvb4
        have hl2 := lt_of_blk hV4
        have hl3 := lt_of_blk hp4
        have HSA := Lib.hid hSA
        clear hvb4 hV4 hp4 hd2 hclo hmW hmW2 hdW hvbW hVW hpW hbW hm2 hgrow2 hown2 htopW hO2 hownW hW
        go_region_held3 (fun w' : World => w'.cell? ⟨w.heap.size + 1 + 1, 0, none⟩ = some (.pointer (some ⟨w.heap.size + 1, 0, none⟩)) ∧ w'.cell? ⟨w.heap.size + 1, 1, none⟩ = some (.map (some w.heap.size)) ∧ w'.cell? ⟨wr.heap.size, 0, none⟩ = some (.int .i64 p.at_)) (first | exact hS1 | exact HSA.out | assumption) ((refine step_append_at rfl (.tmp 43) (.tmp 45) 139 rfl (w.heap.size + 1) 1 i0 .nilFunc 1 8 Try.underlying139 hi hz0 hz1 hz2 rfl (by decide) (sl p.at_) (cl p.at_).length (cl p.at_) (by simp [Act.eval]) HROW.out ⟨W.heap.size, 0, none⟩ 1 1 [(.func (.func 78) #[] #[.pointer (some ⟨w.heap.size + 1 + 1, 0, none⟩), .pointer (some ⟨wr.heap.size, 0, none⟩), .pointer (some ⟨w2.heap.size, 0, none⟩)])] (by simp [Act.eval]) rfl (fun j u hj => by rw [Addr.add_lit, Nat.zero_add]; exact (row_cell (heap_alloc_new W (.cells #[(.func (.func 78) #[] #[.pointer (some ⟨w.heap.size + 1 + 1, 0, none⟩), .pointer (some ⟨wr.heap.size, 0, none⟩), .pointer (some ⟨w2.heap.size, 0, none⟩)])] 1)) j).trans hj) (by simp [Value.oneCell']) (by unfold maxLen; omega) (by omega) (by simp; omega) ?_; intro v5 w5 hown5 hgrow5 hat5; obtain ⟨w6, D6, hrun6, hd6, hg6⟩ := HD2.out.stored lawInt Try.underlying3 Try.underlying136 (by unfold maxLen; omega) p.at_ hpw hown5 hgrow5 (hat5.imp id (fun q => ⟨_, q, Nat.le_refl _⟩)); have hS5 : (fun w' : World => w'.cell? ⟨w.heap.size + 1 + 1, 0, none⟩ = some (.pointer (some ⟨w.heap.size + 1, 0, none⟩)) ∧ w'.cell? ⟨w.heap.size + 1, 1, none⟩ = some (.map (some w.heap.size)) ∧ w'.cell? ⟨wr.heap.size, 0, none⟩ = some (.int .i64 p.at_)) w5 := ⟨(World.cell?_of_block (hgrow5.block _ hl1 hb1)).trans HSA.out.1, (World.cell?_of_block (hgrow5.block _ hl2 hb2)).trans HSA.out.2.1, (World.cell?_of_block (hgrow5.block _ hl3 hb3)).trans HSA.out.2.2⟩; have hS6 : (fun w' : World => w'.cell? ⟨w.heap.size + 1 + 1, 0, none⟩ = some (.pointer (some ⟨w.heap.size + 1, 0, none⟩)) ∧ w'.cell? ⟨w.heap.size + 1, 1, none⟩ = some (.map (some w.heap.size)) ∧ w'.cell? ⟨wr.heap.size, 0, none⟩ = some (.int .i64 p.at_)) w6 := ⟨(World.cell?_of_block (hg6.block _ (World.block_lt_of_cell? w5 _ hS5.1) (by simp only [ne_eq, Option.some.injEq]; omega))).trans hS5.1, (World.cell?_of_block (hg6.block _ (World.block_lt_of_cell? w5 _ hS5.2.1) (by simp only [ne_eq, Option.some.injEq]; omega))).trans hS5.2.1, (World.cell?_of_block (hg6.block _ (World.block_lt_of_cell? w5 _ hS5.2.2) (by simp only [ne_eq, Option.some.injEq]; omega))).trans hS5.2.2⟩; have HV6 := Lib.hid (ViM.more HV.out HP.out HD.out HND.out HTOP.out HCL.out rfl (HMW.out.trans HMW2.out) hgrow5 (fun j hj => (hown5.lt j hj).2) hd6 hg6 ((HKLO.out.kept HMW2.out (fun _ _ _ _ _ _ q => q)).more HMW2.out.size) HR.out); have HM6 : Hid (Mod No w w6) := ((HM.out.trans (HMW.out.trans HMW2.out)).step ((Mod.refl _ _).grown hgrow5 (fun j ej _ => ej.symm) : Mod (fun j => some j = (sl p.at_).ownBlock) _ w5) (fun j hj q => by have := ((HD.out.row p.at_).lt j q.symm).1; simp only at this; omega)).step ((Mod.refl _ _).grown hg6 (fun j ej _ => (Option.some.inj ej).symm) : Mod (fun j => j = w.heap.size) w5 w6) (fun j hj q => by omega); clear hown5 hgrow5 hat5 hd6 hg6))
        all_goals (go_wp2_with fail; go_meet; exact ⟨HM6.out, HV6.out⟩)
      case rest =>
        obtain ⟨hm', hv'⟩ := hcut
        have HV' := Lib.hid hv'
        have HM' := Lib.hid hm'
        clear hv' hm'
        go_wp2
        go_roundw
        case rel => exact ⟨i + 1, by omega, by go_num, HM'.out, HV'.out⟩
        case measure => simp [intOf]; omega
    · obtain rfl : i = l.length := by omega
      rw [List.take_length] at hv
      have x0 := row_cell (l := [Value.pointer (some ⟨w.heap.size + 1, 0, none⟩)]) hv.d.box 0
      simp only [List.getElem?_cons_zero] at x0
      have HV := Lib.hid hv
      have HM := Lib.hid hm
      clear hv hm
      go_wp2
      go_ret2
      exact ⟨⟨w.heap.size + 1, w.heap.size + 1 + 1, w.heap.size⟩, rfl, HM.out, HV.out⟩

end Go.Proofs.Ythfkpbfapkpnfab
