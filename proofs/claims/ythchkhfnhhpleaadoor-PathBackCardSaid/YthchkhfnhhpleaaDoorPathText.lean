/- path.Text: permissions as text. -/
import Derived.Test.YthchkhfnhhpleaaDoorPathNamed
import Derived.Test.YthchkhfnhhpleaaDoorPathJoin
import Derived.Maps.AppendAt
import Derived.Deep.QuietTactic
import Derived.BigQuiet
import Derived.StillTailTactics
import Derived.IntWalk
namespace Go.Proofs.YthchkhfnhhpleaaDoor
open Go.RowKit Go.Shelf
set_option maxRecDepth 100000

/-- append onto an own row, as a step of a region that draws its order. -/
theorem step_append_own {P : Program} {ops : Array Oper} {o : Oper} {a : Act} {w : World} {K : Act → World → Prop} {Q : Exit → Act → World → Prop} {E : Prop}
    (hg : o.guard = none) (s x : Operand) (t : TypeId) (hop : o.op = Op.call { callee := Callee.builtin Builtin.append, args := #[s, x], argTypes := #[t, t] })
    (base : Nat) (e : TypeId) (i : TypeInfo) (z : Value) (size bytes : Nat) (h1 : P.underlying t = some (.slice e)) (h2 : P.info? e = some i) (h3 : i.zero = some z) (h4 : i.size = size) (h5 : i.bytes = bytes) (h6 : z.cells.size = size) (h7 : 0 < size)
    (v : Value) (n : Nat) (xs : List Value) (hs : a.eval s = v) (hown : w.ownsRow base e size v n xs)
    (ad : Addr) (m c : Nat) (news : List Value) (hx : a.eval x = .slice (some ad) m c) (hn : news.length = m * size) (hc : ∀ j u, news[j]? = some u → w.cell? (ad.add j) = some u) (h1c : ∀ u ∈ news, u.oneCell' = true)
    (b1 : n + m ≤ maxLen) (b2 : (n + m) * bytes ≤ 140737488355328) (hbase : base ≤ w.heap.size)
    (hK : ∀ v' w', w'.ownsRow base e size v' (n + m) (xs ++ news) → w.grownBy w' v.ownBlock → K (a.put o.dst v') w') :
    if Region.wanted o (yielded ops a.tmps) = true then Oper.wp P o a w K Q else E := by
  have hw : Region.wanted o (yielded ops a.tmps) = true := by simp [Region.wanted, hg]
  rw [if_pos hw]
  obtain ⟨v', w', hrun, r1, r2, _⟩ := run_append_own (P := P) w base t o.type e i z size bytes h1 h2 h3 h4 h5 h6 h7 v n xs hown ad m c news hn hc h1c b1 b2 hbase
  unfold Oper.wp
  simp [execOp, hop, resolve, invoke, builtin, hs, hx, hrun, Result.andThen]
  exact hK v' w' r1 r2

theorem goodP_at {l : List Pm} {i : Nat} {q : Pm} (h : l[i]? = some q) : goodP (l.take i) (l.drop i) = (decide (0 ≤ q.dom ∧ q.dom < 8) && (!namedP (l.take i) q.dom && goodP (l.take (i + 1)) (l.drop (i + 1)))) := by
  rw [drop_cons h, goodP, List.take_add_one, h]
  rfl
theorem PmS.take {w : World} {p : Option Addr} {l : List Pm} (h : PmS w p l) (i : Nat) : PmS w p (l.take i) := by
  refine ⟨fun o ho => h.ok o (List.mem_of_mem_take ho), fun h0 => ?_⟩
  obtain ⟨b, off, e, hb, hc⟩ := h.at_ (by rw [List.length_take] at h0; omega)
  refine ⟨b, off, e, hb, fun j o hj => hc j o ?_⟩
  have hl := (List.getElem?_eq_some_iff.1 hj).1
  rw [List.length_take] at hl
  rwa [List.getElem?_take_of_lt (by omega)] at hj

theorem join_any (c : UInt8) : ∀ (l : List (List UInt8)), Lib.join l [c] = joinWith c l
  | [] => rfl
  | [a] => by rw [Lib.join_one]; rfl
  | a :: b :: r => by
    have ih := join_any c (b :: r)
    rw [Lib.join_cons] at ih
    rw [Lib.join_cons, joinWith, ← ih]
    simp [Lib.joinTail]
theorem joinWith_len : ∀ (l : List Pm), (joinWith 44 (l.map Pm.text)).length ≤ 3 * l.length
  | [] => Nat.le_refl _
  | [a] => by simp [joinWith, Pm.text]
  | a :: b :: r => by
    have ih := joinWith_len (b :: r)
    simp only [List.map_cons, joinWith, List.length_append, List.length_cons] at ih ⊢
    have : (Pm.text a).length = 2 := rfl
    omega
theorem own_modN {w w' : World} {n₀ : Nat} {e : TypeId} {size : Nat} {v : Value} {k : Nat} {xs : List Value} (h : w.ownsRow n₀ e size v k xs) (hm : Mod No w w') : w'.ownsRow n₀ e size v k xs := by
  refine ⟨h.1, ?_⟩
  rcases h.2 with h2 | ⟨g, cap, cur, hv, hg, hr, r⟩
  · exact .inl h2
  · exact .inr ⟨g, cap, cur, hv, hg, hm.blk hr (fun q => q), r⟩
theorem enc_dig (d : Int) (h0 : 0 ≤ d) (h7 : d ≤ 7) : Utf8.encode (IntKind.i32.wrap (48 + d)) = txt [UInt8.ofNat (48 + d.toNat)] := by
  have : d = 0 ∨ d = 1 ∨ d = 2 ∨ d = 3 ∨ d = 4 ∨ d = 5 ∨ d = 6 ∨ d = 7 := by omega
  rcases this with rfl | rfl | rfl | rfl | rfl | rfl | rfl | rfl <;> decide +kernel
theorem pm_text (d : Int) (r w : Bool) : (⟨#[110, 114, 119, 98]⟩ : ByteArray).extract (match r, w with | false, false => 0 | true, false => 1 | false, true => 2 | true, true => 3) (match r, w with | false, false => 1 | true, false => 2 | false, true => 3 | true, true => 4) ++ txt [UInt8.ofNat (48 + d.toNat)] = txt (Pm.mk d r w).text := by
  cases r <;> cases w <;> rfl

set_option maxHeartbeats 8000000 in
theorem ptext_any (p : Option Addr) (l : List Pm) (cap : Nat) (w : World) (h : PmS w p l) (hc : l.length ≤ cap) :
    Calls Tryd.prog 23 #[.slice p l.length cap] w fun e w' => e = .returned (.tuple #[.string (txt (textR l).1), .int .i64 ((textR l).2 : Int)]) ∧ Mod No w w' := by
  by_cases h0 : l = []
  · subst h0
    go_enter Tryd.func23, Tryd.ntmps23
    go_wp2_with fail
    go_ret2
    exact ⟨rfl, Mod.refl _ _⟩
  have hz : ((l.length : Int) == 0) = false := beq_eq_false_iff_ne.2 (fun e => h0 (List.eq_nil_of_length_eq_zero (by omega)))
  by_cases h8 : 8 < l.length
  · have h8' : (8 : Int) < l.length := by omega
    have hR : textR l = ([], 1) := by unfold textR; rw [if_pos (.inr h8)]
    rw [hR]
    clear hR h hc h0
    go_enter Tryd.func23, Tryd.ntmps23
    go_wp2_with fail
    go_ret2
    exact ⟨rfl, Mod.refl _ _⟩
  have HS := Lib.hid h
  have HR : Hid (textR l = if goodP [] l = true then (joinWith 44 (l.map Pm.text), 0) else ([], 1)) := by unfold textR; rw [if_neg (by rintro (e | e); exact h0 e; exact h8 e)]; exact rfl
  have hl8 : (l.length : Int) ≤ 8 := by omega
  have h8' : ¬ (8 : Int) < l.length := by omega
  have H0 : Hid (goodP [] l = goodP (l.take 0) (l.drop 0)) := rfl
  clear h h0
  go_enter Tryd.func23, Tryd.ntmps23
  go_wp2_with fail
  go_loopw [4, 18] (fun v vi wr => ∃ i : Nat, vi = .int .i64 i ∧ i ≤ l.length ∧ goodP [] l = goodP (l.take i) (l.drop i) ∧ wr.ownsRow w.heap.size 9 1 v i ((l.take i).map (fun o => Value.string (txt o.text))) ∧ Mod No w wr) (fun _ vi _ => l.length - (intOf vi).toNat)
  case atStart => exact ⟨0, rfl, Nat.zero_le _, H0.out, World.ownsRow_nil _ _ _ _, Mod.refl _ _⟩
  case round =>
    obtain ⟨i, rfl, hi, hgo, hrow, hb⟩ := hrel
    obtain ⟨g, c1, rfl⟩ := owns_sl hrow
    have HB := Lib.hid hb
    have HROW := Lib.hid hrow
    have hm : Mod No w wr := hb
    by_cases hlt : i < l.length
    · have hlt' : (i : Int) < l.length := by omega
      obtain ⟨q, hq⟩ : ∃ q, l[i]? = some q := ⟨_, List.getElem?_eq_getElem hlt⟩
      obtain ⟨b, off, rfl, hblt, x0, x1, x2⟩ := (HS.out.kept hm).cellsAt hq
      rw [goodP_at hq] at hgo
      obtain ⟨dom, rd, wt⟩ := q
      dsimp only at x0 x1 x2 hgo
      by_cases hlo : dom < 0
      · have HE : Hid (textR l = ([], 1)) := by rw [HR.out, hgo, show decide (0 ≤ dom ∧ dom < 8) = false from decide_eq_false (by omega)]; exact rfl
        have dl : decide (dom < 0) = true := decide_eq_true hlo
        clear hgo hq hm hb hrow hi h8
        go_wp2_with fail
        go_quiet (fail)
        go_wp2_with fail
        go_ret2
        rw [HE.out]
        exact ⟨rfl, (HB.out.alloc _).drewN _⟩
      have dl : decide (dom < 0) = false := decide_eq_false hlo
      by_cases hhi : 8 ≤ dom
      · have HE : Hid (textR l = ([], 1)) := by rw [HR.out, hgo, show decide (0 ≤ dom ∧ dom < 8) = false from decide_eq_false (by omega)]; exact rfl
        have dh : decide (8 ≤ dom) = true := decide_eq_true hhi
        clear hgo hq hm hb hrow hi h8
        go_wp2_with fail
        go_quiet (fail)
        go_wp2_with fail
        go_ret2
        rw [HE.out]
        exact ⟨rfl, (HB.out.alloc _).drewN _⟩
      have dh : decide (8 ≤ dom) = false := decide_eq_false hhi
      rw [show decide (0 ≤ dom ∧ dom < 8) = true from decide_eq_true (by omega), Bool.true_and] at hgo
      have HNA : Hid (∀ w', Mod No w w' → Calls Tryd.prog 33 #[.slice (some ⟨b, off, none⟩) i cap, .int .i64 dom] w' fun e w'' => e = .returned (.bool (namedP (l.take i) dom)) ∧ Mod No w' w'') := by
        intro w' hm'
        have := pnamed_any (some ⟨b, off, none⟩) (l.take i) cap dom w' ((HS.out.kept hm').take i) (by rw [List.length_take]; omega)
        rwa [List.length_take, Nat.min_eq_left (by omega)] at this
      have hic : (i : Int) ≤ cap := by omega
      have HY : Hid (∀ j : Nat, ((wr.alloc (.cells #[.int .i64 dom, .bool rd, .bool wt] 60)).drew).cell? ⟨wr.heap.size, j, none⟩ = [Value.int .i64 dom, .bool rd, .bool wt][j]?) := fun j => row_cell (l := [.int .i64 dom, .bool rd, .bool wt]) (heap_alloc_new wr _) j
      have HW1 : Hid (Mod No wr ((wr.alloc (.cells #[.int .i64 dom, .bool rd, .bool wt] 60)).drew)) := ((Mod.refl _ wr).alloc _).drew
      have HM1 : Hid (Mod No w ((wr.alloc (.cells #[.int .i64 dom, .bool rd, .bool wt] 60)).drew)) := (hm.alloc _).drew
      by_cases hnm : namedP (l.take i) dom = true
      · have HE : Hid (textR l = ([], 1)) := by rw [HR.out, hgo, hnm]; exact rfl
        rw [hnm] at HNA
        clear hgo hq hb hrow hi h8 hhi hlo hnm
        go_wp2_with fail
        refine wp_region_still_tail 14 (by kernel_rfl) (by kernel_rfl) ?_
        change wpStill _ _ (World.drew (wr.alloc (.cells #[.int .i64 dom, .bool rd, .bool wt] 60))) (fun a' => wpList _ _ _ _ a' (World.drew (wr.alloc (.cells #[.int .i64 dom, .bool rd, .bool wt] 60)))) _ _
        have y0 := HY.out 0
        generalize World.drew (wr.alloc (.cells #[.int .i64 dom, .bool rd, .bool wt] 60)) = w1 at y0 HM1 ⊢
        simp only [List.take_succ_cons, List.take_zero, List.drop_succ_cons, List.drop_zero]
        repeat still_step
        refine wpStill_nil ?_
        go_wp2_with fail
        refine (HNA.out _ HM1.out).mono ?_
        rintro e w2 ⟨rfl, hm2⟩
        have HM2 := Lib.hid (HM1.out.trans hm2)
        clear hm2
        go_wp2_with fail
        go_ret2
        rw [HE.out]
        exact ⟨rfl, HM2.out⟩
      have hnf : namedP (l.take i) dom = false := by simpa using hnm
      rw [hnf] at HNA hgo
      have HGO : Hid (goodP [] l = goodP (l.take (i + 1)) (l.drop (i + 1))) := by rw [hgo]; exact rfl
      have HQ := Lib.hid hq
      have hd0 : 0 ≤ dom := by omega
      have hd7 : dom ≤ 7 := by omega
      have hs48 : IntKind.i64.wrap (48 + dom) = 48 + dom := IntWalk.i64_in _ (by omega)
      clear hgo hq hb hrow hi h8 hhi hlo hnm hnf
      go_wp2_with fail
      refine wp_region_still_tail 14 (by kernel_rfl) (by kernel_rfl) ?_
      change wpStill _ _ (World.drew (wr.alloc (.cells #[.int .i64 dom, .bool rd, .bool wt] 60))) (fun a' => wpList _ _ _ _ a' (World.drew (wr.alloc (.cells #[.int .i64 dom, .bool rd, .bool wt] 60)))) _ _
      have y0 := HY.out 0
      generalize World.drew (wr.alloc (.cells #[.int .i64 dom, .bool rd, .bool wt] 60)) = w1 at y0 HM1 HW1 HY ⊢
      simp only [List.take_succ_cons, List.take_zero, List.drop_succ_cons, List.drop_zero]
      repeat still_step
      refine wpStill_nil ?_
      go_wp2_with fail
      refine (HNA.out _ HM1.out).mono ?_
      rintro e w2 ⟨rfl, hm2⟩
      have HY2 : Hid (∀ j v, [Value.int .i64 dom, .bool rd, .bool wt][j]? = some v → w2.cell? ⟨wr.heap.size, j, none⟩ = some v) := fun j v hj => by
        have hc1 := (HY.out j).trans hj
        exact (World.cell?_of_block (w := w1) (hm2.block _ (World.block_lt_of_cell? w1 _ hc1) (fun q => q))).trans hc1
      have HM2 := Lib.hid (HM1.out.trans hm2)
      have hsz2 := HM2.out.size
      have HROW2 : Hid (w2.ownsRow w.heap.size 9 1 (.slice g i c1) i ((l.take i).map (fun o => Value.string (txt o.text)))) := own_modN HROW.out (HW1.out.trans hm2)
      obtain ⟨i0, hi, hz0, hz1, hz2⟩ := info_parts Tryd.infoStr
      clear hm2 y0
      have y0 := HY2.out 0 _ rfl
      have y1 := HY2.out 1 _ rfl
      have y2 := HY2.out 2 _ rfl
      have hw1 : IntKind.i64.wrap 1 = 1 := IntWalk.i64_in _ (by omega)
      have hw2 : IntKind.i64.wrap 2 = 2 := IntWalk.i64_in _ (by omega)
      have hw3 : IntKind.i64.wrap 3 = 3 := IntWalk.i64_in _ (by omega)
      have hw4 : IntKind.i64.wrap 4 = 4 := IntWalk.i64_in _ (by omega)
      have henc := enc_dig dom hd0 hd7
      have hsum : ¬ 9223372036854775807 < 1 + (txt [UInt8.ofNat (48 + dom.toNat)]).size := by rw [txt_size]; simp only [List.length_singleton]; omega
      have hp0 := pm_text dom false false
      have hp1 := pm_text dom true false
      have hp2 := pm_text dom false true
      have hp3 := pm_text dom true true
      dsimp only at hp0 hp1 hp2 hp3
      generalize txt [UInt8.ofNat (48 + dom.toNat)] = td at henc hsum hp0 hp1 hp2 hp3
      cases rd <;> cases wt
      all_goals (
        go_wp2_with fail
        go_region_law (refine step_append_own rfl (.tmp 45) (.tmp 56) 24 rfl w.heap.size 9 i0 (.string ⟨#[]⟩) 1 16 Tryd.underlying24 hi hz0 hz1 hz2 rfl (by decide) (.slice g i c1) i ((l.take i).map (fun o => Value.string (txt o.text))) (by simp [Act.eval]) (HROW2.out.alloc _).drew ⟨w2.heap.size, 0, none⟩ 1 1 [.string (txt (Pm.mk dom _ _).text)] (by simp [Act.eval]) rfl (cell_one_new _ _ _) (by simp [Value.oneCell']) (by unfold maxLen; omega) (by omega) (by simp; omega) ?_; intro v' w9 hown9 hgrow9)
        all_goals (
          have HR9 := Lib.hid hown9
          have HM9 : Hid (Mod No w w9) := ((HM2.out.alloc _).drew).grown hgrow9 (fun j ej hlt => absurd hlt (Nat.not_lt.2 (HROW2.out.lt j ej).1))
          go_wp2_with fail
          go_roundw
          case rel => exact ⟨i + 1, by go_num, by omega, HGO.out, by rw [List.take_add_one, HQ.out]; simpa using HR9.out, HM9.out⟩
          case measure => simp [intOf]; omega))
    · have hlt' : ¬ (i : Int) < l.length := by omega
      obtain rfl : i = l.length := by omega
      rw [List.drop_length, List.take_length] at hgo
      rw [List.take_length] at hrow
      have hgood : goodP [] l = true := hgo
      have HE : Hid (textR l = (joinWith 44 (l.map Pm.text), 0)) := by rw [HR.out, if_pos hgood]; exact rfl
      have hjl := joinWith_len l
      have hpos : 0 < l.length := by have := beq_eq_false_iff_ne.1 hz; omega
      have HJ : Hid (Calls Tryd.prog 32 #[.slice g l.length c1, .string ⟨#[44]⟩] wr fun e w'' => e = .returned (.string (txt (joinWith 44 (l.map Pm.text)))) ∧ Mod No wr w'') := by
        rcases hrow.2 with ⟨_, h0⟩ | ⟨gb, cap', cur, hv, hg, hr, hcc, r⟩
        · omega
        · cases hv
          have hmm : (l.map (fun o => txt o.text)).map (·.data.toList) = l.map Pm.text := by rw [List.map_map]; rfl
          have := Tryd.strings_Join gb 0 c1 (l.map (fun o => txt o.text)) ⟨#[44]⟩ wr (fun j x hx => by
            have h1 := hrow.cells (g := gb) rfl j (.string x) (by rw [List.getElem?_map] at hx ⊢; rw [Option.map_eq_some_iff] at hx ⊢; obtain ⟨y, hy, rfl⟩ := hx; exact ⟨y, hy, rfl⟩)
            rwa [Addr.add_lit] at h1) (lt_of_blk hr) (by rw [List.length_map]; omega) (by rw [List.length_map]; exact hcc) (by
            rw [hmm, show (⟨#[44]⟩ : ByteArray).data.toList = [44] from rfl, join_any]; omega)
          rw [hmm, show (⟨#[44]⟩ : ByteArray).data.toList = [44] from rfl, join_any, List.length_map] at this
          refine this.mono ?_
          rintro e w'' ⟨rfl, hb2⟩
          exact ⟨rfl, Mod.of_below hb2⟩
      clear hgo hgood hm hb hrow hi h8 hjl
      go_wp2_with fail
      refine HJ.out.mono ?_
      rintro e w2 ⟨rfl, hm2⟩
      have HM2 := Lib.hid (HB.out.trans hm2)
      clear hm2
      go_wp2_with fail
      go_ret2
      rw [HE.out]
      exact ⟨rfl, HM2.out⟩

end Go.Proofs.YthchkhfnhhpleaaDoor
