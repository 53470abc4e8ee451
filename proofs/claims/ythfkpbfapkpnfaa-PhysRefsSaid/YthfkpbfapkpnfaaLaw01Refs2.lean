/- tenementlaw01.PhysRefs: the walk. -/
import Derived.Test.YthfkpbfapkpnfaaLaw01Refs
namespace Go.Proofs.Ythfkpbfapkpnfaa
open Go.RowKit
set_option maxRecDepth 100000

theorem one_new : List.replicate 1 freeFr = [freeFr] := rfl
theorem one_idx : idxs [freeFr] (-1) [freeFr].length = ((0 : Nat) : Int) :: [] := rfl
theorem one_set : [freeFr].set 0 { freeFr with owner := 3 } = [refFr freeFr.bytes] := rfl

theorem own_len {W : World} {b : Nat} {e : TypeId} {size : Nat} {v : Value} {k : Nat} {xs : List Value} (h : W.ownsRow b e size v k xs) : ∃ q cap, v = .slice q k cap := by
  obtain ⟨g, cap, rfl⟩ := owns_slice h; exact ⟨_, _, rfl⟩

theorem own_modK {w w' : World} {P : Nat → Prop} {n₀ : Nat} {e : TypeId} {size : Nat} {v : Value} {k : Nat} {xs : List Value} (h : w.ownsRow n₀ e size v k xs) (hm : Mod P w w') (hp : ∀ b, n₀ ≤ b → ¬ P b) : w'.ownsRow n₀ e size v k xs := by
  refine ⟨h.1, ?_⟩
  rcases h.2 with h2 | ⟨g, cap, cur, hv, hg, hr, r⟩
  · exact .inl h2
  · exact .inr ⟨g, cap, cur, hv, hg, hm.blk hr (hp g hg), r⟩

theorem own_cell {W : World} {b : Nat} {e : TypeId} {v : Value} {k : Nat} {xs : List Int} (h : W.ownsRow b e 1 v k (xs.map (Value.int .i64))) (j : Nat) (x : Int) (hj : xs[j]? = some x) :
    ∃ g cap, v = .slice (some ⟨g, 0, none⟩) k cap ∧ j < k ∧ k ≤ cap ∧ b ≤ g ∧ W.cell? ⟨g, j, none⟩ = some (.int .i64 x) := by
  have hl := h.1
  simp at hl
  have hjl := (List.getElem?_eq_some_iff.1 hj).1
  rcases h.2 with ⟨rfl, h2⟩ | ⟨g, cap, cur, rfl, hg, hr, hc, hm, hs, ht⟩
  · omega
  · refine ⟨g, cap, rfl, by omega, hc, hg, ?_⟩
    have := h.cells (g := g) rfl j (.int .i64 x) (by simp [hj])
    rwa [Addr.add_lit, Nat.zero_add] at this

/-- The first loop's round: what is known. -/
structure RefW (w0 : World) (n₀ B F O : Nat) (gb : List Int) (m : Nat) (v : Value) (W : World) : Prop where
  run : ∃ f tk, Tk gb f tk ∧ tk.length ≤ m ∧ PhM W B F [f] ∧ W.ownsRow n₀ 3 1 v tk.length (tk.map (Value.int .i64))
  old : W.heap[O]? = some (.cells #[.int .i64 3, .int .i64 0, .int .i64 0, .int .i64 0] 94 (0, 0))
  mod : Mod No w0 W
  size : n₀ ≤ W.heap.size

/-- Get, whatever the kind. -/
theorem get_try {B F : Nat} (k : Int) (f : Fr) (gb : List Int) (tk : List Int) (w : World) (h : PhM w B F [f]) (ht : Tk gb f tk) (hl : tk.length < 4611686018427387904) :
    Calls Try.prog 47 #[.pointer (some ⟨B, 0, none⟩), .int .i64 0, .int .i64 3, .int .i64 k] w fun e w' =>
      ∃ r f' , e = .returned (.int .i64 r) ∧ Mod (One F) w w' ∧ PhM w' B F [f'] ∧ (((r == 0) = true ∧ Tk gb f' (tk ++ [k])) ∨ ((r == 0) = false ∧ Tk gb f' tk)) := by
  by_cases h0 : k < 0 ∨ 3 < k
  · refine (get_out 0 3 k w h (.inr h0)).mono ?_
    rintro e w' ⟨rfl, rfl⟩
    exact ⟨1, f, rfl, Mod.refl _ _, h, .inr ⟨rfl, ht⟩⟩
  have hc := ht.count
  have hle : (tk.filter (· != 0)).length ≤ tk.length := List.length_filter_le _ _
  have htt := ht.total
  by_cases he : f.getErr 3 k = 0
  · refine (get_ok 0 3 k f w h (by omega) rfl (by omega) (by omega) he ⟨by omega, by omega⟩ ⟨by omega, by omega⟩).mono ?_
    rintro e w' ⟨rfl, hm, hP⟩
    exact ⟨0, f.got k, rfl, hm, hP, .inl ⟨rfl, tk_got ht (by omega) (by omega) he⟩⟩
  · refine (get_err 0 3 k f w h (by omega) rfl (by omega) (by omega) he).mono ?_
    rintro e w' ⟨rfl, rfl⟩
    exact ⟨_, f, rfl, Mod.refl _ _, h, .inr ⟨beq_eq_false_iff_ne.2 he, ht⟩⟩

set_option maxHeartbeats 4000000 in
theorem refs_any (kp : Option Addr) (klen kcap : Nat) (ks : List Int) (p : Option Addr) (len cap : Nat) (bs : List Int) (w : World) (hsrc : Src w p bs) (hl : bs.length = len)
    (hkl : ks.length = klen) (hkb : klen * 8 ≤ 140737488355328)
    (hk : 0 < klen → ∃ b o, kp = some ⟨b, o, none⟩ ∧ ∀ j v, ks[j]? = some v → w.cell? ⟨b, o + j, none⟩ = some (.int .i64 v)) :
    Calls Try.prog 14 #[.slice kp klen kcap, .slice p len cap] w fun e w' => e = .returned (.bool true) ∧ Mod No w w' := by
  obtain ⟨i0, hi, hz0, hz1, hz2⟩ := info_parts Try.infoInt
  have HS := Lib.hid hsrc; clear hsrc
  have HK := Lib.hid hk; clear hk
  have HL := Lib.hid hl; clear hl
  have HKL := Lib.hid hkl; clear hkl
  go_enter Try.func14, Try.ntmps14
  go_wp2_with fail
  refine (new_in 1 _ (by omega) (by omega)).mono ?_
  rintro e w1 ⟨B, F, rfl, hB, hF, hm1, hP1⟩
  rw [one_new] at hP1
  go_wp2_with fail
  refine (alloc_some 3 _ hP1 (by omega) one_idx rfl).mono ?_
  rintro e w2 ⟨rfl, hm2, hP2⟩
  rw [one_set] at hP2
  have hm12 : Mod No w w2 := hm1.step hm2 (fun i hi e => by cases e; omega)
  go_wp2_with fail
  refine (write_try p len cap bs freeFr.bytes _ hP2 HL.out (HS.out.kept hm12 (fun _ _ _ q => q))).mono ?_
  rintro e w3 ⟨r3, gb, rfl, hm3, hP3⟩
  have hm13 : Mod No w w3 := hm12.step hm3 (fun i hi e => by cases e; omega)
  clear hP1 hP2 hm1 hm2 hm3 hm12
  go_wp2_with fail
  refine (frame_in 0 (refFr gb) _ hP3 (by omega) rfl).mono ?_
  rintro e w4 ⟨rfl, hm4⟩
  have hP4 := hP3.kept hm4 (fun q => q) (fun q => q)
  have hm14 : Mod No w w4 := hm13.trans hm4
  clear hm4 hP3 hm13
  go_wp2_with fail
  have hO := heap_alloc_new w4 (.cells #[.int .i64 (refFr gb).owner, .int .i64 (refFr gb).type, .int .i64 (refFr gb).count, .int .i64 (refFr gb).total] 94)
  have hP5 := hP4.alloc (.cells #[.int .i64 (refFr gb).owner, .int .i64 (refFr gb).type, .int .i64 (refFr gb).count, .int .i64 (refFr gb).total] 94)
  have hm15 := hm14.alloc (.cells #[.int .i64 (refFr gb).owner, .int .i64 (refFr gb).type, .int .i64 (refFr gb).count, .int .i64 (refFr gb).total] 94)
  have hs5 : (w4.alloc (.cells #[.int .i64 (refFr gb).owner, .int .i64 (refFr gb).type, .int .i64 (refFr gb).count, .int .i64 (refFr gb).total] 94)).heap.size = w4.heap.size + 1 := by simp
  have hlB := hP4.ltB
  have hlF := hP4.ltF
  generalize (w4.alloc (.cells #[.int .i64 (refFr gb).owner, .int .i64 (refFr gb).type, .int .i64 (refFr gb).count, .int .i64 (refFr gb).total] 94)) = w5 at hO hP5 hm15 hs5 ⊢
  have hO' : w5.heap[w4.heap.size]? = some (.cells #[.int .i64 3, .int .i64 0, .int .i64 0, .int .i64 0] 94 (0, 0)) := hO
  clear hO
  obtain ⟨n₀, hn₀⟩ : ∃ n₀, n₀ = w4.heap.size + 1 := ⟨_, rfl⟩
  have hst : RefW w n₀ B F w4.heap.size gb 0 (.slice none 0 0) w5 := ⟨⟨_, [], tk_start gb, Nat.le_refl _, hP5, World.ownsRow_nil _ _ _ _⟩, hO', hm15, by omega⟩
  have hsz4 := hm14.size
  have hF4 : w4.heap.size ≠ F := by omega
  have HF4 := Lib.hid hF4; clear hF4
  have HN := Lib.hid hn₀; clear hn₀ hs5 hm15 hm14 hP5 hO' hP4
  go_loopw [9, 10] (fun vt v wr => ∃ k : Nat, k ≤ klen ∧ v = .int .i64 k ∧ RefW w n₀ B F w4.heap.size gb k vt wr) (fun _ v _ => klen - (intOf v).toNat)
  case atStart => exact ⟨0, Nat.zero_le _, rfl, hst⟩
  case round =>
    obtain ⟨k, hkl, rfl, hR⟩ := hrel
    obtain ⟨⟨f, tk, hT, htl, hP, hown⟩, hold, hmod, hsz⟩ := hR
    obtain ⟨q, cp, rfl⟩ := own_len hown
    by_cases hlt : k < klen
    · obtain ⟨kb, ko, rfl, hkc⟩ := HK.out (by omega)
      obtain ⟨x, hx⟩ : ∃ x, ks[k]? = some x := ⟨ks[k]'(by rw [HKL.out]; exact hlt), by rw [List.getElem?_eq_getElem]⟩
      have hx0 := hkc k x hx
      have hxw : wr.cell? ⟨kb, ko + k, none⟩ = some (.int .i64 x) := by
        have := World.block_lt_of_cell? w _ hx0
        exact (World.cell?_of_block (w := w) (hmod.block kb this (fun q => q))).trans hx0
      have hgt := get_try x f gb tk wr hP hT (by omega)
      have HG := Lib.hid hgt
      have HT := Lib.hid hT
      clear hgt hT
      go_wp2_with fail
      refine HG.out.mono ?_
      rintro e w6 ⟨r6, f6, rfl, hm6, hP6, hcase⟩
      have hsz6 := hm6.size
      have hown6 := own_modK hown hm6 (fun b hb e => by cases e; have := HN.out; omega)
      have hold6 := hm6.blk hold (fun e => HF4.out e)
      have hmod6 : Mod No w w6 := hmod.step hm6 (fun i hi e => by cases e; omega)
      have hxw6 : w6.cell? ⟨kb, ko + k, none⟩ = some (.int .i64 x) := by
        have := World.block_lt_of_cell? w _ hx0
        exact (World.cell?_of_block (w := w) (hmod6.block kb this (fun q => q))).trans hx0
      clear hm6 hown hold hmod hxw hP HG HT
      rcases hcase with ⟨h6, hT6⟩ | ⟨h6, hT6⟩
      · have HT6 := Lib.hid hT6; clear hT6
        go_wp2_with (at_builtin; refine wpList_append_own _ rfl _ _ 92 rfl n₀ 3 i0 (.int .i64 0) 1 8 Try.underlying92 hi hz0 hz1 hz2 rfl (by decide) _ _ _ rfl (hown6.alloc _) ⟨w6.heap.size, 0, none⟩ 1 1 [.int .i64 x] rfl rfl (cell_one_new _ _ _) (by simp [Value.oneCell']) (by unfold maxLen; omega) (by omega) (by simp; omega) ?_; intro v' w7 hown' hgrow _)
        obtain ⟨hsA, hsB⟩ : n₀ ≤ w6.heap.size ∧ w6.heap.size ≤ w7.heap.size := ⟨by omega, by have := hgrow.size; simp at this; omega⟩
        have hm67 : Mod (fun b => n₀ ≤ b) w6 w7 := ((Mod.refl _ w6).alloc _).grown hgrow (fun j ej _ => (hown6.lt j ej).1)
        have hP7 := hP6.kept hm67 (by have := HN.out; omega) (by have := HN.out; omega)
        have hold7 := hm67.blk hold6 (by have := HN.out; omega)
        have hmod7 : Mod No w w7 := hmod6.step hm67 (fun i hi (q : n₀ ≤ i) => by have := HN.out; omega)
        have hown7 : w7.ownsRow n₀ 3 1 v' (tk.length + 1) (tk.map (Value.int .i64) ++ [.int .i64 x]) := hown'
        clear hown' hgrow hm67 hP6 hold6 hmod6 hown6
        obtain ⟨q7, c7, he7⟩ := own_len hown7; cases he7
        go_wp2_with fail
        refine (frame_in 0 f6 _ hP7 (by omega) rfl).mono ?_
        rintro e w8 ⟨rfl, hm8⟩
        have hP8 := hP7.kept hm8 (fun q => q) (fun q => q)
        have hown8 := own_modK hown7 hm8 (fun _ _ q => q)
        have hold8 := hm8.blk hold7 (fun q => q)
        have hmod8 := hmod7.trans hm8
        have hsz8 := hm8.size
        have hd : (f6.total != ((tk.length + 1 : Nat) : Int)) = false := by rw [HT6.out.total]; simp
        clear hm8 hP7 hown7 hold7 hmod7
        go_wp2
        go_roundw
        case rel =>
          refine ⟨k + 1, by omega, by go_num, ⟨⟨f6, (tk ++ [x]), HT6.out, by simp; omega, hP8.alloc _, ?_⟩, blk_alloc hold8 _, hmod8.alloc _, by simp; omega⟩⟩
          have := hown8.alloc (.cells #[.int .i64 f6.owner, .int .i64 f6.type, .int .i64 f6.count, .int .i64 f6.total] 94)
          simpa using this
        case measure => simp [intOf]; omega
      · have HT6 := Lib.hid hT6; clear hT6
        have hP7 := hP6
        have hold7 := hold6
        have hmod7 := hmod6
        have hown7 := hown6
        clear hP6 hold6 hmod6 hown6
        obtain ⟨q7, c7, he7⟩ := own_len hown7; cases he7
        go_wp2_with fail
        refine (frame_in 0 f6 _ hP7 (by omega) rfl).mono ?_
        rintro e w8 ⟨rfl, hm8⟩
        have hP8 := hP7.kept hm8 (fun q => q) (fun q => q)
        have hown8 := own_modK hown7 hm8 (fun _ _ q => q)
        have hold8 := hm8.blk hold7 (fun q => q)
        have hmod8 := hmod7.trans hm8
        have hsz8 := hm8.size
        have hd : (f6.total != ((tk.length : Nat) : Int)) = false := by rw [HT6.out.total]; simp
        clear hm8 hP7 hown7 hold7 hmod7
        go_wp2
        go_roundw
        case rel =>
          refine ⟨k + 1, by omega, by go_num, ⟨⟨f6, tk, HT6.out, by omega, hP8.alloc _, ?_⟩, blk_alloc hold8 _, hmod8.alloc _, by simp; omega⟩⟩
          have := hown8.alloc (.cells #[.int .i64 f6.owner, .int .i64 f6.type, .int .i64 f6.count, .int .i64 f6.total] 94)
          simpa using this
        case measure => simp [intOf]; omega
    · have hlow : n₀ ≤ wr.heap.size := hsz
      have hlen := HN.out
      have hbsy : 0 < tk.length → f.rest = 9 := by
        intro h0
        unfold Fr.rest
        rw [if_neg (show ¬ f.owner = -1 by rw [hT.owner]; decide), if_neg (show ¬ f.total = 0 by rw [hT.total]; omega)]
      have HBZ := Lib.hid hbsy; clear hbsy
      have HT := Lib.hid hT; clear hT
      have HX : ∀ w6, Mod (One F) wr w6 → Hid (w6.ownsRow n₀ 3 1 (.slice q tk.length cp) tk.length (tk.map (Value.int .i64)) ∧
          w6.heap[w4.heap.size]? = some (.cells #[.int .i64 3, .int .i64 0, .int .i64 0, .int .i64 0] 94 (0, 0)) ∧ Mod No w w6) :=
        fun w6 hm => ⟨own_modK hown hm (fun b hb (e : b = F) => by omega), hm.blk hold (fun (e : _ = F) => by omega), hmod.step hm (fun i hi (e : i = F) => by omega)⟩
      have hPw := Lib.hid hP
      by_cases h0 : 0 < tk.length
      · have d0 : decide (0 < tk.length) = true := decide_eq_true h0
        have hE := HBZ.out h0
        have hfr := free_err 0 f wr hP (by omega) rfl (by rw [hE]; decide)
        have hgv := give_err 0 4 f wr hP (by omega) rfl (by omega) (by omega) (by rw [hE]; decide)
        rw [hE] at hfr hgv
        have HFR := Lib.hid hfr
        have HGV := Lib.hid hgv
        clear hE hfr hgv hP hown hold hmod h0
        go_wp2_with (first
          | (go_at_call 48; refine HFR.out.mono ?_; rintro e w6 ⟨rfl, rfl⟩)
          | (go_at_call 49; refine HGV.out.mono ?_; rintro e w6 ⟨rfl, rfl⟩))
        go_loopw [13] (fun v wx => ∃ j : Nat, j ≤ tk.length ∧ v = .int .i64 j ∧ ∃ f', Tk gb f' (tk.drop j) ∧ PhM wx B F [f'] ∧ Mod (One F) wr wx) (fun v _ => tk.length - (intOf v).toNat)
        case atStart => exact ⟨0, Nat.zero_le _, rfl, f, HT.out, hPw.out, Mod.refl _ _⟩
        case round =>
          obtain ⟨j, hj, rfl, f', hT', hP', hm'⟩ := hrel
          obtain ⟨hown', hold', hmod'⟩ := (HX _ hm').out
          by_cases hlt : j < tk.length
          · obtain ⟨x, hx⟩ : ∃ x, tk[j]? = some x := ⟨tk[j], by rw [List.getElem?_eq_getElem]⟩
            obtain ⟨g, cap, hv, hjl, hkc, hg, hc⟩ := own_cell hown' j x hx
            cases hv
            have hdr : tk.drop j = x :: tk.drop (j + 1) := by
              rw [List.drop_eq_getElem_cons hlt]; congr 1
              rw [List.getElem?_eq_getElem hlt] at hx; exact Option.some.inj hx
            rw [hdr] at hT'
            obtain ⟨hpe, hT2⟩ := tk_put hT'
            have hxk := (hT'.kinds x (by simp)).1
            have htt := hT'.total
            have hct := hT'.count
            have hlf := List.length_filter_le (· != 0) (x :: tk.drop (j + 1))
            simp only [List.length_cons, List.length_drop] at htt hlf
            have hpt := put_ok 0 x f' wr hP' (by omega) rfl hxk.1 hxk.2 hpe ⟨by omega, by omega⟩ ⟨by omega, by omega⟩
            have HPT := Lib.hid hpt
            clear hpt hT' htt hct hlf hpe hP' hdr
            go_wp2_with (go_at_call 50; refine HPT.out.mono ?_; rintro e w6 ⟨rfl, hm6, hP6⟩)
            go_roundw
            case rel => exact ⟨j + 1, by omega, by go_num, f'.put x, hT2, hP6, hm'.trans hm6⟩
            case measure => simp [intOf]; omega
          · obtain rfl : j = tk.length := by omega
            rw [List.drop_length] at hT'
            obtain rfl := tk_end hT'
            go_wp2_with fail
            refine (frame_in 0 (refFr gb) _ hP' (by omega) rfl).mono ?_
            rintro e w6 ⟨rfl, hm6⟩
            have hP6 := hP'.kept hm6 (fun q => q) (fun q => q)
            have hold6 := hm6.blk hold' (fun q => q)
            have hmod6 := hmod'.trans hm6
            clear hP' hold' hm6 hmod' hown'
            have c0 := row_cell hold6 0
            have c1 := row_cell hold6 1
            have c2 := row_cell hold6 2
            have c3 := row_cell hold6 3
            simp only [List.getElem?_cons_zero, List.getElem?_cons_succ] at c0 c1 c2 c3
            have hlt6 := lt_of_blk hold6
            have hP6' := Lib.hid (hP6.alloc (.cells #[.int .i64 3, .int .i64 0, .int .i64 0, .int .i64 0] 94))
            have hmod6' := Lib.hid (hmod6.alloc (.cells #[.int .i64 3, .int .i64 0, .int .i64 0, .int .i64 0] 94))
            have e1 : (refFr gb).owner = 3 := rfl
            have e2 : (refFr gb).type = 0 := rfl
            have e3 : (refFr gb).count = 0 := rfl
            have e4 : (refFr gb).total = 0 := rfl
            clear hP6 hmod6
            go_wp2_with fail
            refine (put_err 0 0 (refFr gb) _ hP6'.out (by omega) rfl (by omega) (by omega) (show (14 : Int) ≠ 0 by decide)).mono ?_
            rintro e w7 ⟨rfl, hm7, hP7⟩
            go_wp2_with fail
            refine (put_err 0 1 (refFr gb) _ hP7 (by omega) rfl (by omega) (by omega) (show (14 : Int) ≠ 0 by decide)).mono ?_
            rintro e w8 ⟨rfl, hm8, hP8⟩
            go_wp2_with fail
            refine (give_ok 0 4 (refFr gb) _ hP8 (by omega) rfl (by omega) (by omega) rfl).mono ?_
            rintro e w9 ⟨rfl, hm9, hP9⟩
            go_wp2_with fail
            refine (free_ok 0 { refFr gb with owner := 4 } _ hP9 (by omega) rfl rfl).mono ?_
            rintro e w10 ⟨rfl, hm10, hP10⟩
            go_wp2_with fail
            refine (clean_yes 0 freeFr _ hP10 (by omega) rfl allZero_free).mono ?_
            rintro e w11 ⟨rfl, hm11⟩
            have hP11 := hP10.kept hm11 (fun q => q) (fun q => q)
            go_wp2_with fail
            refine (free_err 0 freeFr _ hP11 (by omega) rfl (by decide)).mono ?_
            rintro e w12 ⟨rfl, rfl⟩
            have hfin : Mod No w w11 := ((((hmod6'.out.trans hm7).trans hm8).step hm9 (fun i hi (e : i = F) => by omega)).step hm10 (fun i hi (e : i = F) => by omega)).trans hm11
            clear hP7 hP8 hP9 hP10 hP11
            have er : freeFr.rest = 11 := rfl
            go_wp2
            go_ret
            exact ⟨rfl, hfin⟩
      · have d0 : decide (0 < tk.length) = false := decide_eq_false h0
        clear hP hown hold hmod h0
        go_wp2_with fail
        go_loopw [13] (fun v wx => ∃ j : Nat, j ≤ tk.length ∧ v = .int .i64 j ∧ ∃ f', Tk gb f' (tk.drop j) ∧ PhM wx B F [f'] ∧ Mod (One F) wr wx) (fun v _ => tk.length - (intOf v).toNat)
        case atStart => exact ⟨0, Nat.zero_le _, rfl, f, HT.out, hPw.out, Mod.refl _ _⟩
        case round =>
          obtain ⟨j, hj, rfl, f', hT', hP', hm'⟩ := hrel
          obtain ⟨hown', hold', hmod'⟩ := (HX _ hm').out
          by_cases hlt : j < tk.length
          · obtain ⟨x, hx⟩ : ∃ x, tk[j]? = some x := ⟨tk[j], by rw [List.getElem?_eq_getElem]⟩
            obtain ⟨g, cap, hv, hjl, hkc, hg, hc⟩ := own_cell hown' j x hx
            cases hv
            have hdr : tk.drop j = x :: tk.drop (j + 1) := by
              rw [List.drop_eq_getElem_cons hlt]; congr 1
              rw [List.getElem?_eq_getElem hlt] at hx; exact Option.some.inj hx
            rw [hdr] at hT'
            obtain ⟨hpe, hT2⟩ := tk_put hT'
            have hxk := (hT'.kinds x (by simp)).1
            have htt := hT'.total
            have hct := hT'.count
            have hlf := List.length_filter_le (· != 0) (x :: tk.drop (j + 1))
            simp only [List.length_cons, List.length_drop] at htt hlf
            have hpt := put_ok 0 x f' wr hP' (by omega) rfl hxk.1 hxk.2 hpe ⟨by omega, by omega⟩ ⟨by omega, by omega⟩
            have HPT := Lib.hid hpt
            clear hpt hT' htt hct hlf hpe hP' hdr
            go_wp2_with (go_at_call 50; refine HPT.out.mono ?_; rintro e w6 ⟨rfl, hm6, hP6⟩)
            go_roundw
            case rel => exact ⟨j + 1, by omega, by go_num, f'.put x, hT2, hP6, hm'.trans hm6⟩
            case measure => simp [intOf]; omega
          · obtain rfl : j = tk.length := by omega
            rw [List.drop_length] at hT'
            obtain rfl := tk_end hT'
            go_wp2_with fail
            refine (frame_in 0 (refFr gb) _ hP' (by omega) rfl).mono ?_
            rintro e w6 ⟨rfl, hm6⟩
            have hP6 := hP'.kept hm6 (fun q => q) (fun q => q)
            have hold6 := hm6.blk hold' (fun q => q)
            have hmod6 := hmod'.trans hm6
            clear hP' hold' hm6 hmod' hown'
            have c0 := row_cell hold6 0
            have c1 := row_cell hold6 1
            have c2 := row_cell hold6 2
            have c3 := row_cell hold6 3
            simp only [List.getElem?_cons_zero, List.getElem?_cons_succ] at c0 c1 c2 c3
            have hlt6 := lt_of_blk hold6
            have hP6' := Lib.hid (hP6.alloc (.cells #[.int .i64 3, .int .i64 0, .int .i64 0, .int .i64 0] 94))
            have hmod6' := Lib.hid (hmod6.alloc (.cells #[.int .i64 3, .int .i64 0, .int .i64 0, .int .i64 0] 94))
            have e1 : (refFr gb).owner = 3 := rfl
            have e2 : (refFr gb).type = 0 := rfl
            have e3 : (refFr gb).count = 0 := rfl
            have e4 : (refFr gb).total = 0 := rfl
            clear hP6 hmod6
            go_wp2_with fail
            refine (put_err 0 0 (refFr gb) _ hP6'.out (by omega) rfl (by omega) (by omega) (show (14 : Int) ≠ 0 by decide)).mono ?_
            rintro e w7 ⟨rfl, hm7, hP7⟩
            go_wp2_with fail
            refine (put_err 0 1 (refFr gb) _ hP7 (by omega) rfl (by omega) (by omega) (show (14 : Int) ≠ 0 by decide)).mono ?_
            rintro e w8 ⟨rfl, hm8, hP8⟩
            go_wp2_with fail
            refine (give_ok 0 4 (refFr gb) _ hP8 (by omega) rfl (by omega) (by omega) rfl).mono ?_
            rintro e w9 ⟨rfl, hm9, hP9⟩
            go_wp2_with fail
            refine (free_ok 0 { refFr gb with owner := 4 } _ hP9 (by omega) rfl rfl).mono ?_
            rintro e w10 ⟨rfl, hm10, hP10⟩
            go_wp2_with fail
            refine (clean_yes 0 freeFr _ hP10 (by omega) rfl allZero_free).mono ?_
            rintro e w11 ⟨rfl, hm11⟩
            have hP11 := hP10.kept hm11 (fun q => q) (fun q => q)
            go_wp2_with fail
            refine (free_err 0 freeFr _ hP11 (by omega) rfl (by decide)).mono ?_
            rintro e w12 ⟨rfl, rfl⟩
            have hfin : Mod No w w11 := ((((hmod6'.out.trans hm7).trans hm8).step hm9 (fun i hi (e : i = F) => by omega)).step hm10 (fun i hi (e : i = F) => by omega)).trans hm11
            clear hP7 hP8 hP9 hP10 hP11
            have er : freeFr.rest = 11 := rfl
            go_wp2
            go_ret
            exact ⟨rfl, hfin⟩

end Go.Proofs.Ythfkpbfapkpnfaa
